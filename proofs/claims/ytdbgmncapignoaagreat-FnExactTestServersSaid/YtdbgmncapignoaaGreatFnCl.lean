/-
  Contracts: servers that begin a round, servers that are replaced, the close of a round.
  Conditions: none.
-/
import Derived.Test.YtdbgmncapignoaaGreatFnGw
import Derived.Test.YtdbgmncapignoaaGreatFnNw
import Derived.Test.YtdbgmncapignoaaGreatFnG
namespace Go.Proofs.YtdbgmncapignoaaGreat
set_option maxHeartbeats 4000000
set_option maxRecDepth 20000
open Go.Vm Go.RowKit
attribute [local irreducible] FnAt MutAt InAt JAt CurAt

attribute [local irreducible] newServer addRound addOk servOk
def beginS (s : DServer) : DServer := if servOk s && decide (s.Round ≠ 100000) then { s with Round := IntKind.i64.wrap (s.Round + 1), Received := [] } else s
def freshS (w : DWorld) (id : Int) : DServer := { newServer id w.Rows 0 with Round := w.Round }
def inServ (w : DWorld) (id : Int) : Bool := inR id 0 ((w.Servers.length : Int) - 1)
def replS (w : DWorld) (l : List DServer) (id : Int) : List DServer := if inServ w id = true then l.set id.toNat (freshS w id) else l
def replR (w : DWorld) (l : List Int) (id : Int) : List Int := if inServ w id = true then l ++ [id] else l
def guiltyS (w : DWorld) (g : List Int) : List DServer := g.foldl (replS w) w.Servers
def guiltyR (w : DWorld) (g : List Int) : List Int := g.foldl (replR w) w.Replaced
theorem foldl_all {α β : Type} (p : α → Prop) (f : α → β → α) (h : ∀ a b, p a → p (f a b)) : ∀ (l : List β) (a : α), p a → p (l.foldl f a)
  | [], _, ha => ha
  | b :: l, a, ha => foldl_all p f h l (f a b) (h a b ha)
theorem foldl_succ {α β : Type} (f : α → β → α) (a : α) (l : List β) {i : Nat} (h : i < l.length) : (l.take (i + 1)).foldl f a = f ((l.take i).foldl f a) l[i] := by
  rw [List.take_succ_eq_append_getElem h, List.foldl_append]; rfl
theorem mem_set_or {α : Type} {l : List α} {i : Nat} {x y : α} (h : y ∈ l.set i x) : y = x ∨ y ∈ l := by
  rcases List.mem_or_eq_of_mem_set h with h | h
  · exact .inr h
  · exact .inl h
theorem replS_len (w : DWorld) (l : List DServer) (id : Int) : (replS w l id).length = l.length := by unfold replS; split <;> simp
theorem guiltyS_len (w : DWorld) (g : List Int) : (guiltyS w g).length = w.Servers.length := foldl_all (fun l => l.length = w.Servers.length) (replS w) (fun l id h => by rw [replS_len]; exact h) g w.Servers rfl
theorem freshS_sub (w : DWorld) (id : Int) : (freshS w id).Received = [] := newServer_sub id w.Rows 0
theorem guiltyS_big (w : DWorld) (g : List Int) (h : bigSs w.Servers) : ∀ s ∈ guiltyS w g, bigS s := foldl_all (fun l => ∀ s ∈ l, bigS s) (replS w) (fun l id h s hs => by
  unfold replS at hs
  split at hs
  · rcases mem_set_or hs with rfl | hs
    · unfold bigS; rw [freshS_sub]; exact ⟨Nat.zero_le _, fun r hr => by cases hr⟩
    · exact h s hs
  · exact h s hs) g w.Servers h.2
theorem guiltyS_round (w : DWorld) (g : List Int) (h : ∀ s ∈ w.Servers, s.Round = w.Round) : ∀ s ∈ guiltyS w g, s.Round = w.Round := foldl_all (fun l => ∀ s ∈ l, s.Round = w.Round) (replS w) (fun l id h s hs => by
  unfold replS at hs
  split at hs
  · rcases mem_set_or hs with rfl | hs
    · rfl
    · exact h s hs
  · exact h s hs) g w.Servers h
theorem guiltyS_succ (w : DWorld) (g : List Int) {i : Nat} (h : i < g.length) : guiltyS w (g.take (i + 1)) = replS w (guiltyS w (g.take i)) g[i] := foldl_succ _ _ _ h
theorem guiltyR_succ (w : DWorld) (g : List Int) {i : Nat} (h : i < g.length) : guiltyR w (g.take (i + 1)) = replR w (guiltyR w (g.take i)) g[i] := foldl_succ _ _ _ h
theorem guiltyR_len (w : DWorld) : ∀ (g : List Int) (l : List Int), (g.foldl (replR w) l).length ≤ l.length + g.length
  | [], l => by simp
  | x :: g, l => by
    have h := guiltyR_len w g (replR w l x)
    have h2 : (replR w l x).length ≤ l.length + 1 := by unfold replR; split <;> simp
    simp only [List.foldl_cons, List.length_cons]
    omega
theorem addRound_pos {a : DArchive} {r : Int} {d : DDatabase} (h : addOk a r d = true) : 0 < (addRound a r d).Rounds.length := by
  unfold addRound
  rw [if_pos h]
  have hl : (withRound a r d).length = a.Rounds.length + 1 := by simp [withRound]
  show 0 < (addRounds a r d).length
  unfold addRounds
  by_cases h8 : 8 < (withRound a r d).length
  · rw [if_pos h8, List.length_drop]; omega
  · rw [if_neg h8]; omega
theorem worldOk_round {w : DWorld} (h : worldOk w = true) : ∀ s ∈ w.Servers, s.Round = w.Round := fun s hs => by
  unfold worldOk at h
  simp only [Bool.and_eq_true] at h
  obtain ⟨i, hi, rfl⟩ := List.mem_iff_getElem.1 hs
  have h2 := (allN_iff _ _).1 h.1.1 i (Nat.zero_le _) (by omega)
  rw [servIn_eq w hi] at h2
  simp only [Bool.and_eq_true, decide_eq_true_eq] at h2
  exact h2.1.2
theorem guiltyR_le (w : DWorld) (g : List Int) (i : Nat) : (guiltyR w (g.take i)).length ≤ w.Replaced.length + g.length := by
  have h := guiltyR_len w (g.take i) w.Replaced
  have h2 : (g.take i).length ≤ g.length := by rw [List.length_take]; exact Nat.min_le_right _ _
  unfold guiltyR
  omega
def closeOk (w : DWorld) : Bool := worldOk w && decide (w.Round < 99999)
def closeA (w : DWorld) (g : List Int) (d : DDatabase) : DArchive := match g with | [] => addRound w.Archive w.Round d | _ :: _ => w.Archive
def closeC (w : DWorld) (g : List Int) : Int := match g with | [] => w.Cancelled | _ :: _ => IntKind.i64.wrap (w.Cancelled + 1)
def closeW (w : DWorld) (g : List Int) (d : DDatabase) : DWorld := if closeOk w then ⟨w.Rows, (guiltyS w g).map beginS, w.Devices, closeA w g d, w.Master, w.Seed, IntKind.i64.wrap (w.Round + 1), guiltyR w g, closeC w g⟩ else w
def DWorld.rw (x : DWorld) : List RC := [.s (I x.Rows), .l 5 (x.Servers.map DServer.e), .l 16 (x.Devices.map DDevice.e), .s (I x.Archive.Rows), .w 2 (x.Archive.Rounds.map DArchivedRound.e), .s (I x.Master), .s (I x.Seed), .s (I x.Round), .l 1 (x.Replaced.map eI), .s (I x.Cancelled)]
theorem beg_len (l : List DServer) (j : Nat) : (((l.take j).map beginS ++ l.drop j).map DServer.e).length = l.length := by simp; omega
theorem beg_get (l : List DServer) {j : Nat} (h : j < l.length) : ((l.take j).map beginS ++ l.drop j)[j]? = some l[j] := by
  rw [List.getElem?_append_right (by simp; omega), List.length_map, List.length_take, Nat.min_eq_left (by omega), Nat.sub_self, List.getElem?_drop, Nat.add_zero, List.getElem?_eq_getElem h]
theorem beg_row (l : List DServer) {j : Nat} (h : j < l.length) : (((l.take j).map beginS ++ l.drop j).map DServer.e)[j]? = some (DServer.e l[j]) := by
  rw [List.getElem?_map, beg_get l h]; rfl
theorem beg_set (l : List DServer) {j : Nat} (h : j < l.length) : (((l.take j).map beginS ++ l.drop j).map DServer.e).set j (DServer.e (beginS l[j])) = ((l.take (j + 1)).map beginS ++ l.drop (j + 1)).map DServer.e := by
  rw [← List.map_set, List.set_append_right _ _ (by rw [List.length_map, List.length_take]; exact Nat.min_le_left _ _), List.length_map, List.length_take, Nat.min_eq_left (by omega), Nat.sub_self, List.drop_eq_getElem_cons h, List.set_cons_zero, List.take_succ_eq_append_getElem h]
  simp only [List.map_append, List.map_cons, List.map_nil, List.append_assoc, List.cons_append, List.nil_append]
theorem beg_end (l : List DServer) {j : Nat} (h : l.length ≤ j) : ((l.take j).map beginS ++ l.drop j).map DServer.e = (l.map beginS).map DServer.e := by
  rw [take_all l h, List.drop_eq_nil_of_le h, List.append_nil]
theorem beg_lt {l : List DServer} {j k : Nat} (h : (k : Int) < ((((l.take j).map beginS ++ l.drop j).map DServer.e).length : Int)) : k < l.length := by rw [beg_len] at h; omega
theorem beg_ge {l : List DServer} {j k : Nat} (h : ¬ ((k : Int) < ((((l.take j).map beginS ++ l.drop j).map DServer.e).length : Int))) : l.length ≤ k := by rw [beg_len] at h; omega
theorem beg_0 (l : List DServer) : l.map DServer.e = ((l.take 0).map beginS ++ l.drop 0).map DServer.e := rfl
theorem rep_set (l : List DServer) (k : Nat) (x : DServer) : (l.map DServer.e).set k (DServer.e x) = (l.set k x).map DServer.e := by rw [List.map_set]
theorem rep_row (w : DWorld) (g : List Int) {k : Nat} (h : k < w.Servers.length) : ∃ s, ((guiltyS w g).map DServer.e)[k]? = some (DServer.e s) ∧ s ∈ guiltyS w g := by
  have hl : k < (guiltyS w g).length := by rw [guiltyS_len]; exact h
  exact ⟨(guiltyS w g)[k], by rw [List.getElem?_map, List.getElem?_eq_getElem hl]; rfl, List.getElem_mem hl⟩
attribute [local irreducible] worldOk
theorem tonat {x : Int} {m : Int} (h : inR x 0 m = true) : x = ((x.toNat : Nat) : Int) := by have := (inR_iff.1 h).1; omega
theorem tolt {x : Int} {n : Nat} (h : inR x 0 ((n : Int) - 1) = true) : x.toNat < n := by have := inR_iff.1 h; omega
theorem guilty_idx (w : DWorld) (g : List Int) {x : Int} (h : inR x 0 ((w.Servers.length : Int) - 1) = true) : x.toNat < ((guiltyS w g).map DServer.e).length := by rw [List.length_map, guiltyS_len]; exact tolt h
theorem guilty_row (w : DWorld) (g : List Int) {x : Int} (h : inR x 0 ((w.Servers.length : Int) - 1) = true) : ((guiltyS w g).map DServer.e)[x.toNat]? = some (DServer.e ((guiltyS w g)[x.toNat]'(by rw [guiltyS_len]; exact tolt h))) := by
  rw [List.getElem?_map, List.getElem?_eq_getElem]; rfl
theorem repl_T (w : DWorld) (g : List Int) {i : Nat} (hi : i < g.length) (h : inR g[i] 0 ((w.Servers.length : Int) - 1) = true) : ((guiltyS w (g.take i)).map DServer.e).set (g[i]).toNat (DServer.e (freshS w g[i])) = (guiltyS w (g.take (i + 1))).map DServer.e := by
  rw [guiltyS_succ w g hi, rep_set]; unfold replS; rw [if_pos (show inServ w g[i] = true from h)]
theorem repl_T2 (w : DWorld) (g : List Int) {i : Nat} (hi : i < g.length) (h : inR g[i] 0 ((w.Servers.length : Int) - 1) = true) : ((guiltyS w (g.take i)).map DServer.e).set (g[i]).toNat (DServer.e { newServer g[i] w.Rows 0 with Round := w.Round }) = (guiltyS w (g.take (i + 1))).map DServer.e := repl_T w g hi h
theorem repl_T' (w : DWorld) (g : List Int) {i : Nat} (hi : i < g.length) (h : inR g[i] 0 ((w.Servers.length : Int) - 1) = true) (hr : ∀ s ∈ w.Servers, s.Round = w.Round) : ((guiltyS w (g.take i)).map DServer.e).set (g[i]).toNat (DServer.e { newServer g[i] w.Rows 0 with Round := ((guiltyS w (g.take i))[(g[i]).toNat]'(by rw [guiltyS_len]; exact tolt h)).Round }) = (guiltyS w (g.take (i + 1))).map DServer.e := by
  rw [guiltyS_round w (g.take i) hr _ (List.getElem_mem _)]; exact repl_T w g hi h
theorem repl_F (w : DWorld) (g : List Int) {i : Nat} (hi : i < g.length) (h : inR g[i] 0 ((w.Servers.length : Int) - 1) = false) : (guiltyS w (g.take i)).map DServer.e = (guiltyS w (g.take (i + 1))).map DServer.e := by
  rw [guiltyS_succ w g hi]; unfold replS; rw [if_neg (by unfold inServ; rw [h]; simp)]
theorem replR_T (w : DWorld) (g : List Int) {i : Nat} (hi : i < g.length) (h : inR g[i] 0 ((w.Servers.length : Int) - 1) = true) : (guiltyR w (g.take i)).map eI ++ [eI g[i]] = (guiltyR w (g.take (i + 1))).map eI := by
  rw [guiltyR_succ w g hi]; unfold replR; rw [if_pos (show inServ w g[i] = true from h), List.map_append]; rfl
theorem guiltyS_nil (w : DWorld) (g : List Int) : w.Servers.map DServer.e = (guiltyS w (g.take 0)).map DServer.e := rfl
theorem guiltyR_nil (w : DWorld) (g : List Int) : w.Replaced.map eI = (guiltyR w (g.take 0)).map eI := rfl
theorem replR_F (w : DWorld) (g : List Int) {i : Nat} (hi : i < g.length) (h : inR g[i] 0 ((w.Servers.length : Int) - 1) = false) : (guiltyR w (g.take i)).map eI = (guiltyR w (g.take (i + 1))).map eI := by
  rw [guiltyR_succ w g hi]; unfold replR; rw [if_neg (by unfold inServ; rw [h]; simp)]

end Go.Proofs.YtdbgmncapignoaaGreat
