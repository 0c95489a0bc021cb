/-
  Contracts: the sums of a server's shares.
  Conditions: none.
-/
import Derived.Test.YteecgbgdmfjogaaGreatFnS
namespace Go.Proofs.YteecgbgdmfjogaaGreat
set_option maxHeartbeats 4000000
set_option maxRecDepth 20000
open Go.Vm Go.RowKit
attribute [local irreducible] FnAt MutAt InAt JAt CurAt FnE CurE RegAt

attribute [local irreducible] xorB Vm.part
def zero24 : List UInt8 := List.replicate 24 0
def newDb (n : Int) : DDatabase := if inR n 0 64 then ⟨List.replicate n.toNat zero24⟩ else ⟨[]⟩
theorem zero24_e : List.replicate 24 [U8 0] = zero24.map eU := by rfl
theorem newDb_big (n : Int) : bigB (newDb n).Rows := by
  unfold newDb
  split
  · rename_i h
    have h := inR_iff.1 h
    refine ⟨by rw [List.length_replicate]; omega, fun x hx => ?_⟩
    rw [(List.mem_replicate.1 hx).2]
    decide
  · exact ⟨by simp, by simp⟩
theorem c_sNewDatabase (n : Int) : FnAt Tryz.prog 122 [.one (I n)] [.agg (DDatabase.r (newDb n))] := by
  by_cases hc : inR n 0 64 = true
  · have h9 := inR_iff.1 hc
    obtain ⟨m, rfl⟩ := Int.eq_ofNat_of_zero_le h9.1
    refine fn_of Tryz.func122 rfl (by kernel_rfl) rfl ?_
    all_goals repeat' (first | (with_reducible rfl) | ((conv => whnf); first | exact trivial | (with_reducible rfl) | exact (rfl : (0 : Int) = ((0 : Nat) : Int)) | exact w64_nat arith | refine bcase_T (by first | with_reducible rfl | decide) ?_ | refine bcase_F (by first | with_reducible rfl | decide) ?_ | refine bcase_dec (fun _ => ?_) (fun _ => ?_) | refine bcase_not ?_ | refine bcase_intro (fun _ => ?_) (fun _ => ?_) | refine ⟨(by with_reducible rfl), ?_⟩ | refine ⟨congrArg vi ?_, ?_⟩ | refine ⟨congrArg vb ?_, ?_⟩ | refine ⟨rfl, ?_⟩ | refine ⟨(by kernel_rfl : drawOK _ = true), ?_⟩ | refine Or.inl ?_ | refine ⟨⟨congrArg (T.int _) ?_, rfl⟩, ?_⟩ | refine ⟨⟨congrArg T.bool ?_, rfl⟩, ?_⟩ | refine ⟨⟨rfl, Nat.le_of_ble_eq_true rfl⟩, ?_⟩ | refine ⟨⟨rfl, rfl⟩, ?_⟩ | refine ⟨⟨rfl, (by decide)⟩, ?_⟩ | refine ⟨⟨rfl, ?_⟩, ?_⟩ | refine ⟨Or.inr rfl, ?_⟩ | refine ⟨Or.inl rfl, ?_⟩ | refine ⟨⟨⟨rfl, rfl, rfl⟩, ?_⟩, ?_⟩ | refine ⟨_, _, rfl, row_get _ _ arith, rfl, ?_⟩ | refine ⟨Or.inr (by repeat (first | exact trivial | refine ⟨rfl, ?_⟩)), ?_⟩ | refine ⟨(?_ : _ = ([] : List (List T))), ?_⟩ | fail))
    conv => whnf
    refine ⟨Nat, fun i => i ≤ m, fun i => ⟨[(0, vi m), (2, .ptr 0 0), (3, .ptr 1 0), (4, vi i)], [(0, .box [.nil]), (1, .box [.ref 2]), (2, .row true true 1 ((List.replicate i zero24).map (eL eU)))], 3⟩, fun i => m - i, 0, Nat.zero_le _, sub_at2 [(0, 2, 0), (1, 3, 0), (2, 3, 1)] rfl rfl rfl ?_ ?_, fun i (hi : i ≤ m) => ?_⟩
    all_goals repeat' (first | (with_reducible rfl) | ((conv => whnf); first | exact trivial | (with_reducible rfl) | exact (rfl : (0 : Int) = ((0 : Nat) : Int)) | exact w64_nat arith | refine bcase_T (by first | with_reducible rfl | decide) ?_ | refine bcase_F (by first | with_reducible rfl | decide) ?_ | refine bcase_dec (fun _ => ?_) (fun _ => ?_) | refine bcase_not ?_ | refine bcase_intro (fun _ => ?_) (fun _ => ?_) | refine ⟨(by with_reducible rfl), ?_⟩ | refine ⟨congrArg vi ?_, ?_⟩ | refine ⟨congrArg vb ?_, ?_⟩ | refine ⟨rfl, ?_⟩ | refine ⟨(by kernel_rfl : drawOK _ = true), ?_⟩ | refine Or.inl ?_ | refine ⟨⟨congrArg (T.int _) ?_, rfl⟩, ?_⟩ | refine ⟨⟨congrArg T.bool ?_, rfl⟩, ?_⟩ | refine ⟨⟨rfl, Nat.le_of_ble_eq_true rfl⟩, ?_⟩ | refine ⟨⟨rfl, rfl⟩, ?_⟩ | refine ⟨⟨rfl, (by decide)⟩, ?_⟩ | refine ⟨⟨rfl, ?_⟩, ?_⟩ | refine ⟨Or.inr rfl, ?_⟩ | refine ⟨Or.inl rfl, ?_⟩ | refine ⟨⟨⟨rfl, rfl, rfl⟩, ?_⟩, ?_⟩ | refine ⟨_, _, rfl, row_get _ _ arith, rfl, ?_⟩ | refine ⟨Or.inr (by repeat (first | exact trivial | refine ⟨rfl, ?_⟩)), ?_⟩ | refine ⟨(?_ : _ = ([] : List (List T))), ?_⟩ | refine ⟨24, ⟨rfl, rfl⟩, ⟨(by decide), (by decide)⟩, ?_⟩ | refine ⟨⟨bnd, bnd⟩, ?_⟩ | refine ⟨i + 1, ⟨arith, arith⟩, sub_at2 [(0, 2, 0), (1, 3, 0), (2, 3, 1)] rfl rfl rfl ?_ ?_⟩ | fail))
    all_goals first
      | (exfalso; omega)
      | (rw [show List.replicate (i + 1) zero24 = List.replicate i zero24 ++ [zero24] from List.replicate_succ', List.map_append, List.map_cons, List.map_nil]; show _ ++ [[T.lst (List.replicate 24 [U8 0])]] = _; rw [zero24_e]; rfl)
      | (have e : i = m := (by omega); subst e; unfold newDb; rw [if_pos hc, Int.toNat_natCast]; done)
      | (simp; done)
      | skip
  · have h9 := inR_not.1 (eq_false_of_ne_true hc)
    have hr : newDb n = ⟨[]⟩ := by unfold newDb; rw [if_neg hc]
    refine fn_of Tryz.func122 rfl (by kernel_rfl) rfl ?_
    all_goals repeat' (first | (with_reducible rfl) | ((conv => whnf); first | exact trivial | (with_reducible rfl) | exact (rfl : (0 : Int) = ((0 : Nat) : Int)) | exact w64_nat arith | refine bcase_T (by first | with_reducible rfl | decide) ?_ | refine bcase_F (by first | with_reducible rfl | decide) ?_ | refine bcase_dec (fun _ => ?_) (fun _ => ?_) | refine bcase_not ?_ | refine bcase_intro (fun _ => ?_) (fun _ => ?_) | refine ⟨(by with_reducible rfl), ?_⟩ | refine ⟨congrArg vi ?_, ?_⟩ | refine ⟨congrArg vb ?_, ?_⟩ | refine ⟨rfl, ?_⟩ | refine ⟨(by kernel_rfl : drawOK _ = true), ?_⟩ | refine Or.inl ?_ | refine ⟨⟨congrArg (T.int _) ?_, rfl⟩, ?_⟩ | refine ⟨⟨congrArg T.bool ?_, rfl⟩, ?_⟩ | refine ⟨⟨rfl, Nat.le_of_ble_eq_true rfl⟩, ?_⟩ | refine ⟨⟨rfl, rfl⟩, ?_⟩ | refine ⟨⟨rfl, (by decide)⟩, ?_⟩ | refine ⟨⟨rfl, ?_⟩, ?_⟩ | refine ⟨Or.inr rfl, ?_⟩ | refine ⟨Or.inl rfl, ?_⟩ | refine ⟨⟨⟨rfl, rfl, rfl⟩, ?_⟩, ?_⟩ | refine ⟨_, _, rfl, row_get _ _ arith, rfl, ?_⟩ | refine ⟨Or.inr (by repeat (first | exact trivial | refine ⟨rfl, ?_⟩)), ?_⟩ | refine ⟨(?_ : _ = ([] : List (List T))), ?_⟩ | fail))
    conv => whnf
    refine ⟨Nat, fun i => i = 0, fun i => ⟨[(0, vi n), (2, .ptr 0 0), (3, .ptr 1 0), (4, vi i)], [(0, .box [.nil]), (1, .box [.nil])], 2⟩, fun i => i, 0, rfl, sub_at2 [(0, 2, 0), (1, 3, 0)] rfl rfl rfl ?_ ?_, fun i (hi : i = 0) => ?_⟩
    all_goals (try subst hi)
    all_goals repeat' (first | (with_reducible rfl) | ((conv => whnf); first | exact trivial | (with_reducible rfl) | exact (rfl : (0 : Int) = ((0 : Nat) : Int)) | exact w64_nat arith | refine bcase_T (by first | with_reducible rfl | decide) ?_ | refine bcase_F (by first | with_reducible rfl | decide) ?_ | refine bcase_dec (fun _ => ?_) (fun _ => ?_) | refine bcase_not ?_ | refine bcase_intro (fun _ => ?_) (fun _ => ?_) | refine ⟨(by with_reducible rfl), ?_⟩ | refine ⟨congrArg vi ?_, ?_⟩ | refine ⟨congrArg vb ?_, ?_⟩ | refine ⟨rfl, ?_⟩ | refine ⟨(by kernel_rfl : drawOK _ = true), ?_⟩ | refine Or.inl ?_ | refine ⟨⟨congrArg (T.int _) ?_, rfl⟩, ?_⟩ | refine ⟨⟨congrArg T.bool ?_, rfl⟩, ?_⟩ | refine ⟨⟨rfl, Nat.le_of_ble_eq_true rfl⟩, ?_⟩ | refine ⟨⟨rfl, rfl⟩, ?_⟩ | refine ⟨⟨rfl, (by decide)⟩, ?_⟩ | refine ⟨⟨rfl, ?_⟩, ?_⟩ | refine ⟨Or.inr rfl, ?_⟩ | refine ⟨Or.inl rfl, ?_⟩ | refine ⟨⟨⟨rfl, rfl, rfl⟩, ?_⟩, ?_⟩ | refine ⟨_, _, rfl, row_get _ _ arith, rfl, ?_⟩ | refine ⟨Or.inr (by repeat (first | exact trivial | refine ⟨rfl, ?_⟩)), ?_⟩ | refine ⟨(?_ : _ = ([] : List (List T))), ?_⟩ | refine ⟨24, ⟨rfl, rfl⟩, ⟨(by decide), (by decide)⟩, ?_⟩ | fail))
    all_goals first
      | (exfalso; omega)
      | (rw [hr]; rfl)
      | skip
def sumD (n : Int) (l : List DReceivedShare) : DDatabase := l.foldl (fun d r => xorDb d r.Share) (newDb n)
theorem sumD_take (n : Int) (l : List DReceivedShare) {i : Nat} (h : i < l.length) : sumD n (l.take (i + 1)) = xorDb (sumD n (l.take i)) l[i].Share := foldl_take _ _ _ h
theorem sumD_big (n : Int) (l : List DReceivedShare) (h : ∀ r ∈ l, bigB r.Share.Rows) : bigB (sumD n l).Rows := by
  unfold sumD
  have key : ∀ (l : List DReceivedShare) (d : DDatabase), bigB d.Rows → (∀ r ∈ l, bigB r.Share.Rows) → bigB (l.foldl (fun d r => xorDb d r.Share) d).Rows := by
    intro l
    induction l with
    | nil => intro d hd _; exact hd
    | cons r l ih => intro d hd hl; exact ih _ (bigB_xor hd (hl r (by simp))) (fun x hx => hl x (by simp [hx]))
  exact key l _ (newDb_big n) h
def sumS (s : DServer) : DDatabase := if servOk s then sumD s.Rows s.Received else ⟨[]⟩
def isSpoiled (l : List DServer) (p : List DDatabase) : Bool := !joinHas p || !joinHas (l.map sumS) || !((joinDb p).Rows == (joinDb (l.map sumS)).Rows)
theorem sumS_big (s : DServer) (h : bigS s) : bigB (sumS s).Rows := by
  unfold sumS
  split
  · exact sumD_big _ _ h.2
  · exact ⟨by simp, by simp⟩
theorem joinF_big : ∀ (l : List DDatabase) (d x : DDatabase), bigB d.Rows → (∀ y ∈ l, bigB y.Rows) → joinF d l = some x → bigB x.Rows
  | [], d, x, hd, _, h => by injection h with h; subst h; exact hd
  | s :: r, d, x, hd, hl, h => by
    simp only [joinF] at h
    split at h
    · exact joinF_big r _ x (bigB_xor hd (hl s (by simp))) (fun y hy => hl y (by simp [hy])) h
    · cases h
theorem joinDb_big (l : List DDatabase) (h : bigL l) : bigB (joinDb l).Rows := by
  unfold joinDb
  cases e : joinW l with
  | none => exact ⟨by simp, by simp⟩
  | some x =>
    cases l with
    | nil => simp [joinW] at e
    | cons d r =>
      simp only [joinW] at e
      split at e
      · exact joinF_big r d x (h.2 d (by simp)) (fun y hy => h.2 y (by simp [hy])) e
      · cases e
def bigSs (l : List DServer) : Prop := l.length ≤ 1099511627776 ∧ ∀ s ∈ l, bigS s
theorem bigL_sums {l : List DServer} (h : bigSs l) : bigL (l.map sumS) := ⟨by rw [List.length_map]; exact h.1, fun d hd => by obtain ⟨s, hs, rfl⟩ := List.mem_map.1 hd; exact sumS_big s (h.2 s hs)⟩
theorem sums_take (l : List DServer) {i : Nat} (h : i < l.length) : ((l.take (i + 1)).map sumS).map DDatabase.e = ((l.take i).map sumS).map DDatabase.e ++ [DDatabase.e (sumS l[i])] := by
  rw [map_take_succ sumS l h, List.map_append]
  rfl
end Go.Proofs.YteecgbgdmfjogaaGreat
