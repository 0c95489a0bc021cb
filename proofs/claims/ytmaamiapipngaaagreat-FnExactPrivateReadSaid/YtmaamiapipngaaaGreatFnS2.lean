/-
  Contracts: the sums of a server's shares.
  Conditions: none.
-/
import Derived.Test.YtmaamiapipngaaaGreatFnS
namespace Go.Proofs.YtmaamiapipngaaaGreat
set_option maxHeartbeats 4000000
set_option maxRecDepth 20000
open Go.Vm Go.RowKit
attribute [local irreducible] FnAt MutAt InAt JAt CurAt FnE CurE RegAt

attribute [local irreducible] xorB Vm.part
def zero24 : List UInt8 := List.replicate 24 0
def newDb (n : Int) : DDatabase := if inR n 0 64 then ⟨List.replicate n.toNat zero24⟩ else ⟨[]⟩
theorem zero24_e : List.replicate 24 [U8 0] = zero24.map eU := by rfl
theorem newDb_big (n : Int) : bigB (newDb n).Rows := by
  unfold newDb
  split
  · rename_i h
    have h := inR_iff.1 h
    refine ⟨by rw [List.length_replicate]; omega, fun x hx => ?_⟩
    rw [(List.mem_replicate.1 hx).2]
    decide
  · exact ⟨by simp, by simp⟩
def sumD (n : Int) (l : List DReceivedShare) : DDatabase := l.foldl (fun d r => xorDb d r.Share) (newDb n)
theorem sumD_take (n : Int) (l : List DReceivedShare) {i : Nat} (h : i < l.length) : sumD n (l.take (i + 1)) = xorDb (sumD n (l.take i)) l[i].Share := foldl_take _ _ _ h
theorem sumD_big (n : Int) (l : List DReceivedShare) (h : ∀ r ∈ l, bigB r.Share.Rows) : bigB (sumD n l).Rows := by
  unfold sumD
  have key : ∀ (l : List DReceivedShare) (d : DDatabase), bigB d.Rows → (∀ r ∈ l, bigB r.Share.Rows) → bigB (l.foldl (fun d r => xorDb d r.Share) d).Rows := by
    intro l
    induction l with
    | nil => intro d hd _; exact hd
    | cons r l ih => intro d hd hl; exact ih _ (bigB_xor hd (hl r (by simp))) (fun x hx => hl x (by simp [hx]))
  exact key l _ (newDb_big n) h
def sumS (s : DServer) : DDatabase := if servOk s then sumD s.Rows s.Received else ⟨[]⟩
def isSpoiled (l : List DServer) (p : List DDatabase) : Bool := !joinHas p || !joinHas (l.map sumS) || !((joinDb p).Rows == (joinDb (l.map sumS)).Rows)
theorem sumS_big (s : DServer) (h : bigS s) : bigB (sumS s).Rows := by
  unfold sumS
  split
  · exact sumD_big _ _ h.2
  · exact ⟨by simp, by simp⟩
theorem joinF_big : ∀ (l : List DDatabase) (d x : DDatabase), bigB d.Rows → (∀ y ∈ l, bigB y.Rows) → joinF d l = some x → bigB x.Rows
  | [], d, x, hd, _, h => by injection h with h; subst h; exact hd
  | s :: r, d, x, hd, hl, h => by
    simp only [joinF] at h
    split at h
    · exact joinF_big r _ x (bigB_xor hd (hl s (by simp))) (fun y hy => hl y (by simp [hy])) h
    · cases h
theorem joinDb_big (l : List DDatabase) (h : bigL l) : bigB (joinDb l).Rows := by
  unfold joinDb
  cases e : joinW l with
  | none => exact ⟨by simp, by simp⟩
  | some x =>
    cases l with
    | nil => simp [joinW] at e
    | cons d r =>
      simp only [joinW] at e
      split at e
      · exact joinF_big r d x (h.2 d (by simp)) (fun y hy => h.2 y (by simp [hy])) e
      · cases e
def bigSs (l : List DServer) : Prop := l.length ≤ 1099511627776 ∧ ∀ s ∈ l, bigS s
theorem bigL_sums {l : List DServer} (h : bigSs l) : bigL (l.map sumS) := ⟨by rw [List.length_map]; exact h.1, fun d hd => by obtain ⟨s, hs, rfl⟩ := List.mem_map.1 hd; exact sumS_big s (h.2 s hs)⟩
theorem sums_take (l : List DServer) {i : Nat} (h : i < l.length) : ((l.take (i + 1)).map sumS).map DDatabase.e = ((l.take i).map sumS).map DDatabase.e ++ [DDatabase.e (sumS l[i])] := by
  rw [map_take_succ sumS l h, List.map_append]
  rfl
theorem bigSs_of {l : List DServer} (h : szL DServer.sz l ≤ 1099511627776) : bigSs l := by
  have h1 := szL_len DServer.sz l
  refine ⟨by omega, fun s hs => ?_⟩
  have h2 := szL_mem DServer.sz l hs
  simp only [DServer.sz] at h2
  have h3 := szL_len DReceivedShare.sz s.Received
  refine ⟨by omega, fun r hr => ?_⟩
  have h4 := szL_mem DReceivedShare.sz s.Received hr
  simp only [DReceivedShare.sz, DDatabase.sz] at h4
  exact bigB_of (by omega)
end Go.Proofs.YtmaamiapipngaaaGreat
