/-
  Contracts: the sums of a server's shares.
  Conditions: none.
-/
import Derived.Test.YtpipfobdfcnghaaFnS
namespace Go.Proofs.Ytpipfobdfcnghaa
set_option maxHeartbeats 4000000
set_option maxRecDepth 20000
open Go.Vm Go.RowKit
attribute [local irreducible] FnAt MutAt InAt JAt CurAt FnE CurE RegAt

attribute [local irreducible] xorB Vm.part
def zero24 : List UInt8 := List.replicate 24 0
def newDb (n : Int) : DDatabase := if inR n 0 64 then ⟨List.replicate n.toNat zero24⟩ else ⟨[]⟩
theorem zero24_e : List.replicate 24 [U8 0] = zero24.map eU := by rfl
theorem newDb_big (n : Int) : bigB (newDb n).Rows := by
  unfold newDb
  split
  · rename_i h
    have h := inR_iff.1 h
    refine ⟨by rw [List.length_replicate]; omega, fun x hx => ?_⟩
    rw [(List.mem_replicate.1 hx).2]
    decide
  · exact ⟨by simp, by simp⟩
theorem c_NewDatabase (n : Int) : FnAt Try.prog 10 [.one (I n)] [.agg (DDatabase.r (newDb n))] := by
  by_cases hc : inR n 0 64 = true
  · have h9 := inR_iff.1 hc
    obtain ⟨m, rfl⟩ := Int.eq_ofNat_of_zero_le h9.1
    refine fn_of Try.func10 rfl (by kernel_rfl) rfl ?_
    all_goals repeat' (first | (with_reducible rfl) | ((conv => whnf); first | refine ⟨_, c_InRange _ _ _, ?_⟩ | refine bcase_T hc ?_ | exact trivial | (with_reducible rfl) | exact (rfl : (0 : Int) = ((0 : Nat) : Int)) | exact w64_nat arith | refine bcase_T (by first | with_reducible rfl | decide) ?_ | refine bcase_F (by first | with_reducible rfl | decide) ?_ | refine bcase_dec (fun _ => ?_) (fun _ => ?_) | refine bcase_not ?_ | refine bcase_intro (fun _ => ?_) (fun _ => ?_) | refine ⟨(by with_reducible rfl), ?_⟩ | refine ⟨congrArg vi ?_, ?_⟩ | refine ⟨congrArg vb ?_, ?_⟩ | refine ⟨rfl, ?_⟩ | refine ⟨(by kernel_rfl : drawOK _ = true), ?_⟩ | refine Or.inl ?_ | refine ⟨⟨congrArg (T.int _) ?_, rfl⟩, ?_⟩ | refine ⟨⟨congrArg T.bool ?_, rfl⟩, ?_⟩ | refine ⟨⟨rfl, Nat.le_of_ble_eq_true rfl⟩, ?_⟩ | refine ⟨⟨rfl, rfl⟩, ?_⟩ | refine ⟨⟨rfl, (by decide)⟩, ?_⟩ | refine ⟨⟨rfl, ?_⟩, ?_⟩ | refine ⟨Or.inr rfl, ?_⟩ | refine ⟨Or.inl rfl, ?_⟩ | refine ⟨⟨⟨rfl, rfl, rfl⟩, ?_⟩, ?_⟩ | refine ⟨_, _, rfl, row_get _ _ arith, rfl, ?_⟩ | refine ⟨Or.inr (by repeat (first | exact trivial | refine ⟨rfl, ?_⟩)), ?_⟩ | refine ⟨(?_ : _ = ([] : List (List T))), ?_⟩ | fail))
    conv => whnf
    refine ⟨Nat, fun i => i ≤ m, fun i => ⟨[(2, .ptr 0 0), (3, .ptr 1 0), (7, vi m), (8, vi i)], [(0, .box [.nil]), (1, .box [.ref 2]), (2, .row true true 1 ((List.replicate i zero24).map (eL eU)))], 3⟩, fun i => m - i, 0, Nat.zero_le _, sub_at2 [(0, 2, 0), (1, 3, 0), (2, 3, 1)] rfl rfl rfl ?_ ?_, fun i (hi : i ≤ m) => ?_⟩
    all_goals repeat' (first | (with_reducible rfl) | ((conv => whnf); first | exact trivial | (with_reducible rfl) | exact (rfl : (0 : Int) = ((0 : Nat) : Int)) | exact w64_nat arith | refine bcase_T (by first | with_reducible rfl | decide) ?_ | refine bcase_F (by first | with_reducible rfl | decide) ?_ | refine bcase_dec (fun _ => ?_) (fun _ => ?_) | refine bcase_not ?_ | refine bcase_intro (fun _ => ?_) (fun _ => ?_) | refine ⟨(by with_reducible rfl), ?_⟩ | refine ⟨congrArg vi ?_, ?_⟩ | refine ⟨congrArg vb ?_, ?_⟩ | refine ⟨rfl, ?_⟩ | refine ⟨(by kernel_rfl : drawOK _ = true), ?_⟩ | refine Or.inl ?_ | refine ⟨⟨congrArg (T.int _) ?_, rfl⟩, ?_⟩ | refine ⟨⟨congrArg T.bool ?_, rfl⟩, ?_⟩ | refine ⟨⟨rfl, Nat.le_of_ble_eq_true rfl⟩, ?_⟩ | refine ⟨⟨rfl, rfl⟩, ?_⟩ | refine ⟨⟨rfl, (by decide)⟩, ?_⟩ | refine ⟨⟨rfl, ?_⟩, ?_⟩ | refine ⟨Or.inr rfl, ?_⟩ | refine ⟨Or.inl rfl, ?_⟩ | refine ⟨⟨⟨rfl, rfl, rfl⟩, ?_⟩, ?_⟩ | refine ⟨_, _, rfl, row_get _ _ arith, rfl, ?_⟩ | refine ⟨Or.inr (by repeat (first | exact trivial | refine ⟨rfl, ?_⟩)), ?_⟩ | refine ⟨(?_ : _ = ([] : List (List T))), ?_⟩ | refine ⟨24, ⟨rfl, rfl⟩, ⟨(by decide), (by decide)⟩, ?_⟩ | refine ⟨⟨bnd, bnd⟩, ?_⟩ | refine ⟨i + 1, ⟨arith, arith⟩, sub_at2 [(0, 2, 0), (1, 3, 0), (2, 3, 1)] rfl rfl rfl ?_ ?_⟩ | fail))
    all_goals first
      | (rw [show List.replicate (i + 1) zero24 = List.replicate i zero24 ++ [zero24] from List.replicate_succ', List.map_append, List.map_cons, List.map_nil]; show _ ++ [[T.lst (List.replicate 24 [U8 0])]] = _; rw [zero24_e]; rfl)
      | (have e : i = m := (by omega); subst e; unfold newDb; rw [if_pos hc, Int.toNat_natCast]; done)
      | (simp; done)
      | skip
  · refine fn_of Try.func10 rfl (by kernel_rfl) rfl ?_
    all_goals repeat' (first | (with_reducible rfl) | ((conv => whnf); first | refine ⟨_, c_InRange _ _ _, ?_⟩ | refine bcase_F (eq_false_of_ne_true hc) ?_ | exact trivial | (with_reducible rfl) | exact (rfl : (0 : Int) = ((0 : Nat) : Int)) | exact w64_nat arith | refine bcase_T (by first | with_reducible rfl | decide) ?_ | refine bcase_F (by first | with_reducible rfl | decide) ?_ | refine bcase_dec (fun _ => ?_) (fun _ => ?_) | refine bcase_not ?_ | refine bcase_intro (fun _ => ?_) (fun _ => ?_) | refine ⟨(by with_reducible rfl), ?_⟩ | refine ⟨congrArg vi ?_, ?_⟩ | refine ⟨congrArg vb ?_, ?_⟩ | refine ⟨rfl, ?_⟩ | refine ⟨(by kernel_rfl : drawOK _ = true), ?_⟩ | refine Or.inl ?_ | refine ⟨⟨congrArg (T.int _) ?_, rfl⟩, ?_⟩ | refine ⟨⟨congrArg T.bool ?_, rfl⟩, ?_⟩ | refine ⟨⟨rfl, Nat.le_of_ble_eq_true rfl⟩, ?_⟩ | refine ⟨⟨rfl, rfl⟩, ?_⟩ | refine ⟨⟨rfl, (by decide)⟩, ?_⟩ | refine ⟨⟨rfl, ?_⟩, ?_⟩ | refine ⟨Or.inr rfl, ?_⟩ | refine ⟨Or.inl rfl, ?_⟩ | refine ⟨⟨⟨rfl, rfl, rfl⟩, ?_⟩, ?_⟩ | refine ⟨_, _, rfl, row_get _ _ arith, rfl, ?_⟩ | refine ⟨Or.inr (by repeat (first | exact trivial | refine ⟨rfl, ?_⟩)), ?_⟩ | refine ⟨(?_ : _ = ([] : List (List T))), ?_⟩ | fail))
    all_goals (unfold newDb; rw [if_neg hc]; rfl)
theorem c_sNewDatabase (n : Int) : FnAt Try.prog 68 [.one (I n)] [.agg (DDatabase.r (newDb n))] := by
  by_cases hc : inR n 0 64 = true
  · have h9 := inR_iff.1 hc
    obtain ⟨m, rfl⟩ := Int.eq_ofNat_of_zero_le h9.1
    refine fn_of Try.func68 rfl (by kernel_rfl) rfl ?_
    all_goals repeat' (first | (with_reducible rfl) | ((conv => whnf); first | exact trivial | (with_reducible rfl) | exact (rfl : (0 : Int) = ((0 : Nat) : Int)) | exact w64_nat arith | refine bcase_T (by first | with_reducible rfl | decide) ?_ | refine bcase_F (by first | with_reducible rfl | decide) ?_ | refine bcase_dec (fun _ => ?_) (fun _ => ?_) | refine bcase_not ?_ | refine bcase_intro (fun _ => ?_) (fun _ => ?_) | refine ⟨(by with_reducible rfl), ?_⟩ | refine ⟨congrArg vi ?_, ?_⟩ | refine ⟨congrArg vb ?_, ?_⟩ | refine ⟨rfl, ?_⟩ | refine ⟨(by kernel_rfl : drawOK _ = true), ?_⟩ | refine Or.inl ?_ | refine ⟨⟨congrArg (T.int _) ?_, rfl⟩, ?_⟩ | refine ⟨⟨congrArg T.bool ?_, rfl⟩, ?_⟩ | refine ⟨⟨rfl, Nat.le_of_ble_eq_true rfl⟩, ?_⟩ | refine ⟨⟨rfl, rfl⟩, ?_⟩ | refine ⟨⟨rfl, (by decide)⟩, ?_⟩ | refine ⟨⟨rfl, ?_⟩, ?_⟩ | refine ⟨Or.inr rfl, ?_⟩ | refine ⟨Or.inl rfl, ?_⟩ | refine ⟨⟨⟨rfl, rfl, rfl⟩, ?_⟩, ?_⟩ | refine ⟨_, _, rfl, row_get _ _ arith, rfl, ?_⟩ | refine ⟨Or.inr (by repeat (first | exact trivial | refine ⟨rfl, ?_⟩)), ?_⟩ | refine ⟨(?_ : _ = ([] : List (List T))), ?_⟩ | fail))
    conv => whnf
    refine ⟨Nat, fun i => i ≤ m, fun i => ⟨[(0, vi m), (2, .ptr 0 0), (3, .ptr 1 0), (4, vi i)], [(0, .box [.nil]), (1, .box [.ref 2]), (2, .row true true 1 ((List.replicate i zero24).map (eL eU)))], 3⟩, fun i => m - i, 0, Nat.zero_le _, sub_at2 [(0, 2, 0), (1, 3, 0), (2, 3, 1)] rfl rfl rfl ?_ ?_, fun i (hi : i ≤ m) => ?_⟩
    all_goals repeat' (first | (with_reducible rfl) | ((conv => whnf); first | exact trivial | (with_reducible rfl) | exact (rfl : (0 : Int) = ((0 : Nat) : Int)) | exact w64_nat arith | refine bcase_T (by first | with_reducible rfl | decide) ?_ | refine bcase_F (by first | with_reducible rfl | decide) ?_ | refine bcase_dec (fun _ => ?_) (fun _ => ?_) | refine bcase_not ?_ | refine bcase_intro (fun _ => ?_) (fun _ => ?_) | refine ⟨(by with_reducible rfl), ?_⟩ | refine ⟨congrArg vi ?_, ?_⟩ | refine ⟨congrArg vb ?_, ?_⟩ | refine ⟨rfl, ?_⟩ | refine ⟨(by kernel_rfl : drawOK _ = true), ?_⟩ | refine Or.inl ?_ | refine ⟨⟨congrArg (T.int _) ?_, rfl⟩, ?_⟩ | refine ⟨⟨congrArg T.bool ?_, rfl⟩, ?_⟩ | refine ⟨⟨rfl, Nat.le_of_ble_eq_true rfl⟩, ?_⟩ | refine ⟨⟨rfl, rfl⟩, ?_⟩ | refine ⟨⟨rfl, (by decide)⟩, ?_⟩ | refine ⟨⟨rfl, ?_⟩, ?_⟩ | refine ⟨Or.inr rfl, ?_⟩ | refine ⟨Or.inl rfl, ?_⟩ | refine ⟨⟨⟨rfl, rfl, rfl⟩, ?_⟩, ?_⟩ | refine ⟨_, _, rfl, row_get _ _ arith, rfl, ?_⟩ | refine ⟨Or.inr (by repeat (first | exact trivial | refine ⟨rfl, ?_⟩)), ?_⟩ | refine ⟨(?_ : _ = ([] : List (List T))), ?_⟩ | refine ⟨24, ⟨rfl, rfl⟩, ⟨(by decide), (by decide)⟩, ?_⟩ | refine ⟨⟨bnd, bnd⟩, ?_⟩ | refine ⟨i + 1, ⟨arith, arith⟩, sub_at2 [(0, 2, 0), (1, 3, 0), (2, 3, 1)] rfl rfl rfl ?_ ?_⟩ | fail))
    all_goals first
      | (exfalso; omega)
      | (rw [show List.replicate (i + 1) zero24 = List.replicate i zero24 ++ [zero24] from List.replicate_succ', List.map_append, List.map_cons, List.map_nil]; show _ ++ [[T.lst (List.replicate 24 [U8 0])]] = _; rw [zero24_e]; rfl)
      | (have e : i = m := (by omega); subst e; unfold newDb; rw [if_pos hc, Int.toNat_natCast]; done)
      | (simp; done)
      | skip
  · have h9 := inR_not.1 (eq_false_of_ne_true hc)
    have hr : newDb n = ⟨[]⟩ := by unfold newDb; rw [if_neg hc]
    refine fn_of Try.func68 rfl (by kernel_rfl) rfl ?_
    all_goals repeat' (first | (with_reducible rfl) | ((conv => whnf); first | exact trivial | (with_reducible rfl) | exact (rfl : (0 : Int) = ((0 : Nat) : Int)) | exact w64_nat arith | refine bcase_T (by first | with_reducible rfl | decide) ?_ | refine bcase_F (by first | with_reducible rfl | decide) ?_ | refine bcase_dec (fun _ => ?_) (fun _ => ?_) | refine bcase_not ?_ | refine bcase_intro (fun _ => ?_) (fun _ => ?_) | refine ⟨(by with_reducible rfl), ?_⟩ | refine ⟨congrArg vi ?_, ?_⟩ | refine ⟨congrArg vb ?_, ?_⟩ | refine ⟨rfl, ?_⟩ | refine ⟨(by kernel_rfl : drawOK _ = true), ?_⟩ | refine Or.inl ?_ | refine ⟨⟨congrArg (T.int _) ?_, rfl⟩, ?_⟩ | refine ⟨⟨congrArg T.bool ?_, rfl⟩, ?_⟩ | refine ⟨⟨rfl, Nat.le_of_ble_eq_true rfl⟩, ?_⟩ | refine ⟨⟨rfl, rfl⟩, ?_⟩ | refine ⟨⟨rfl, (by decide)⟩, ?_⟩ | refine ⟨⟨rfl, ?_⟩, ?_⟩ | refine ⟨Or.inr rfl, ?_⟩ | refine ⟨Or.inl rfl, ?_⟩ | refine ⟨⟨⟨rfl, rfl, rfl⟩, ?_⟩, ?_⟩ | refine ⟨_, _, rfl, row_get _ _ arith, rfl, ?_⟩ | refine ⟨Or.inr (by repeat (first | exact trivial | refine ⟨rfl, ?_⟩)), ?_⟩ | refine ⟨(?_ : _ = ([] : List (List T))), ?_⟩ | fail))
    conv => whnf
    refine ⟨Nat, fun i => i = 0, fun i => ⟨[(0, vi n), (2, .ptr 0 0), (3, .ptr 1 0), (4, vi i)], [(0, .box [.nil]), (1, .box [.nil])], 2⟩, fun i => i, 0, rfl, sub_at2 [(0, 2, 0), (1, 3, 0)] rfl rfl rfl ?_ ?_, fun i (hi : i = 0) => ?_⟩
    all_goals (try subst hi)
    all_goals repeat' (first | (with_reducible rfl) | ((conv => whnf); first | exact trivial | (with_reducible rfl) | exact (rfl : (0 : Int) = ((0 : Nat) : Int)) | exact w64_nat arith | refine bcase_T (by first | with_reducible rfl | decide) ?_ | refine bcase_F (by first | with_reducible rfl | decide) ?_ | refine bcase_dec (fun _ => ?_) (fun _ => ?_) | refine bcase_not ?_ | refine bcase_intro (fun _ => ?_) (fun _ => ?_) | refine ⟨(by with_reducible rfl), ?_⟩ | refine ⟨congrArg vi ?_, ?_⟩ | refine ⟨congrArg vb ?_, ?_⟩ | refine ⟨rfl, ?_⟩ | refine ⟨(by kernel_rfl : drawOK _ = true), ?_⟩ | refine Or.inl ?_ | refine ⟨⟨congrArg (T.int _) ?_, rfl⟩, ?_⟩ | refine ⟨⟨congrArg T.bool ?_, rfl⟩, ?_⟩ | refine ⟨⟨rfl, Nat.le_of_ble_eq_true rfl⟩, ?_⟩ | refine ⟨⟨rfl, rfl⟩, ?_⟩ | refine ⟨⟨rfl, (by decide)⟩, ?_⟩ | refine ⟨⟨rfl, ?_⟩, ?_⟩ | refine ⟨Or.inr rfl, ?_⟩ | refine ⟨Or.inl rfl, ?_⟩ | refine ⟨⟨⟨rfl, rfl, rfl⟩, ?_⟩, ?_⟩ | refine ⟨_, _, rfl, row_get _ _ arith, rfl, ?_⟩ | refine ⟨Or.inr (by repeat (first | exact trivial | refine ⟨rfl, ?_⟩)), ?_⟩ | refine ⟨(?_ : _ = ([] : List (List T))), ?_⟩ | refine ⟨24, ⟨rfl, rfl⟩, ⟨(by decide), (by decide)⟩, ?_⟩ | fail))
    all_goals first
      | (exfalso; omega)
      | (rw [hr]; rfl)
      | skip
def sumD (n : Int) (l : List DReceivedShare) : DDatabase := l.foldl (fun d r => xorDb d r.Share) (newDb n)
theorem sumD_take (n : Int) (l : List DReceivedShare) {i : Nat} (h : i < l.length) : sumD n (l.take (i + 1)) = xorDb (sumD n (l.take i)) l[i].Share := foldl_take _ _ _ h
theorem sumD_big (n : Int) (l : List DReceivedShare) (h : ∀ r ∈ l, bigB r.Share.Rows) : bigB (sumD n l).Rows := by
  unfold sumD
  have key : ∀ (l : List DReceivedShare) (d : DDatabase), bigB d.Rows → (∀ r ∈ l, bigB r.Share.Rows) → bigB (l.foldl (fun d r => xorDb d r.Share) d).Rows := by
    intro l
    induction l with
    | nil => intro d hd _; exact hd
    | cons r l ih => intro d hd hl; exact ih _ (bigB_xor hd (hl r (by simp))) (fun x hx => hl x (by simp [hx]))
  exact key l _ (newDb_big n) h
def sumS (s : DServer) : DDatabase := if servOk s then sumD s.Rows s.Received else ⟨[]⟩
theorem c_sumOf (n : Int) (l : List DReceivedShare) (hx : l.length ≤ 1099511627776) (h : ∀ r ∈ l, bigB r.Share.Rows) : FnAt Try.prog 51 [.one (I n), .one (L DReceivedShare.e l)] [.agg (DDatabase.r (sumD n l))] := by
  have hb : ∀ i, bigB (sumD n (l.take i)).Rows := fun i => sumD_big n _ (fun r hr => h r (List.mem_of_mem_take hr))
  refine fn_of Try.func51 rfl (by kernel_rfl) rfl ?_
  all_goals repeat' (first | (with_reducible rfl) | ((conv => whnf); first | exact trivial | (with_reducible rfl) | exact (rfl : (0 : Int) = ((0 : Nat) : Int)) | exact w64_nat arith | refine bcase_T (by first | with_reducible rfl | decide) ?_ | refine bcase_F (by first | with_reducible rfl | decide) ?_ | refine bcase_dec (fun _ => ?_) (fun _ => ?_) | refine bcase_not ?_ | refine bcase_intro (fun _ => ?_) (fun _ => ?_) | refine ⟨(by with_reducible rfl), ?_⟩ | refine ⟨congrArg vi ?_, ?_⟩ | refine ⟨congrArg vb ?_, ?_⟩ | refine ⟨rfl, ?_⟩ | refine ⟨(by kernel_rfl : drawOK _ = true), ?_⟩ | refine Or.inl ?_ | refine ⟨⟨congrArg (T.int _) ?_, rfl⟩, ?_⟩ | refine ⟨⟨congrArg T.bool ?_, rfl⟩, ?_⟩ | refine ⟨⟨rfl, Nat.le_of_ble_eq_true rfl⟩, ?_⟩ | refine ⟨⟨rfl, rfl⟩, ?_⟩ | refine ⟨⟨rfl, (by decide)⟩, ?_⟩ | refine ⟨⟨rfl, ?_⟩, ?_⟩ | refine ⟨Or.inr rfl, ?_⟩ | refine ⟨Or.inl rfl, ?_⟩ | refine ⟨⟨⟨rfl, rfl, rfl⟩, ?_⟩, ?_⟩ | refine ⟨_, _, rfl, row_get _ _ arith, rfl, ?_⟩ | refine ⟨Or.inr (by repeat (first | exact trivial | refine ⟨rfl, ?_⟩)), ?_⟩ | refine ⟨(?_ : _ = ([] : List (List T))), ?_⟩ | refine ⟨_, c_NewDatabase n, ?_⟩ | fail))
  conv => whnf
  refine ⟨Nat, fun i => i ≤ l.length, fun i => ⟨[(4, .ptr 0 0), (5, .ptr 1 0), (10, vl (l.map DReceivedShare.e)), (11, vi l.length), (12, vi i)], [(0, .box [.nil]), (1, .box [.ref 2]), (2, .row true true 1 ((sumD n (l.take i)).Rows.map (eL eU)))], 3⟩, fun i => l.length - i, 0, Nat.zero_le _, sub_at2 [(0, 4, 0), (1, 5, 0), (2, 5, 1)] rfl rfl rfl ?_ ?_, fun i (hi : i ≤ l.length) => ?_⟩
  all_goals repeat' (first | (with_reducible rfl) | ((conv => whnf); first | exact trivial | (with_reducible rfl) | exact (rfl : (0 : Int) = ((0 : Nat) : Int)) | exact w64_nat arith | refine bcase_T (by first | with_reducible rfl | decide) ?_ | refine bcase_F (by first | with_reducible rfl | decide) ?_ | refine bcase_dec (fun _ => ?_) (fun _ => ?_) | refine bcase_not ?_ | refine bcase_intro (fun _ => ?_) (fun _ => ?_) | refine ⟨(by with_reducible rfl), ?_⟩ | refine ⟨congrArg vi ?_, ?_⟩ | refine ⟨congrArg vb ?_, ?_⟩ | refine ⟨rfl, ?_⟩ | refine ⟨(by kernel_rfl : drawOK _ = true), ?_⟩ | refine Or.inl ?_ | refine ⟨⟨congrArg (T.int _) ?_, rfl⟩, ?_⟩ | refine ⟨⟨congrArg T.bool ?_, rfl⟩, ?_⟩ | refine ⟨⟨rfl, Nat.le_of_ble_eq_true rfl⟩, ?_⟩ | refine ⟨⟨rfl, rfl⟩, ?_⟩ | refine ⟨⟨rfl, (by decide)⟩, ?_⟩ | refine ⟨⟨rfl, ?_⟩, ?_⟩ | refine ⟨Or.inr rfl, ?_⟩ | refine ⟨Or.inl rfl, ?_⟩ | refine ⟨⟨⟨rfl, rfl, rfl⟩, ?_⟩, ?_⟩ | refine ⟨_, _, rfl, row_get _ _ arith, rfl, ?_⟩ | refine ⟨Or.inr (by repeat (first | exact trivial | refine ⟨rfl, ?_⟩)), ?_⟩ | refine ⟨(?_ : _ = ([] : List (List T))), ?_⟩ | refine ⟨_, c_XorDatabases (sumD n (l.take i)) (l[i]'(by omega)).Share (hb i) (h _ (List.getElem_mem _)), ?_⟩ | refine ⟨i + 1, ⟨arith, arith⟩, sub_at2 [(0, 4, 0), (1, 5, 0), (2, 5, 1)] rfl rfl rfl ?_ ?_⟩ | fail))
  all_goals first
    | (rw [List.length_map]; done)
    | (rw [sumD_take n l (by omega)]; done)
    | (rw [take_all _ (by omega)]; done)
    | rfl
    | skip
theorem c_SumOfShares (s : DServer) (h : bigS s) : FnAt Try.prog 25 [.agg (DServer.e s)] [.agg (DDatabase.r (sumS s))] := by
  refine fn_of Try.func25 rfl (by kernel_rfl) rfl ?_
  all_goals repeat' (first | (with_reducible rfl) | ((conv => whnf); first | exact trivial | (with_reducible rfl) | exact (rfl : (0 : Int) = ((0 : Nat) : Int)) | exact w64_nat arith | refine bcase_T (by first | with_reducible rfl | decide) ?_ | refine bcase_F (by first | with_reducible rfl | decide) ?_ | refine bcase_dec (fun _ => ?_) (fun _ => ?_) | refine bcase_not ?_ | refine bcase_intro (fun _ => ?_) (fun _ => ?_) | refine ⟨(by with_reducible rfl), ?_⟩ | refine ⟨congrArg vi ?_, ?_⟩ | refine ⟨congrArg vb ?_, ?_⟩ | refine ⟨rfl, ?_⟩ | refine ⟨(by kernel_rfl : drawOK _ = true), ?_⟩ | refine Or.inl ?_ | refine ⟨⟨congrArg (T.int _) ?_, rfl⟩, ?_⟩ | refine ⟨⟨congrArg T.bool ?_, rfl⟩, ?_⟩ | refine ⟨⟨rfl, Nat.le_of_ble_eq_true rfl⟩, ?_⟩ | refine ⟨⟨rfl, rfl⟩, ?_⟩ | refine ⟨⟨rfl, (by decide)⟩, ?_⟩ | refine ⟨⟨rfl, ?_⟩, ?_⟩ | refine ⟨Or.inr rfl, ?_⟩ | refine ⟨Or.inl rfl, ?_⟩ | refine ⟨⟨⟨rfl, rfl, rfl⟩, ?_⟩, ?_⟩ | refine ⟨_, _, rfl, row_get _ _ arith, rfl, ?_⟩ | refine ⟨Or.inr (by repeat (first | exact trivial | refine ⟨rfl, ?_⟩)), ?_⟩ | refine ⟨(?_ : _ = ([] : List (List T))), ?_⟩ | refine ⟨_, c_IsValidServer s h, ?_⟩ | refine ⟨_, c_sumOf s.Rows s.Received h.1 h.2, ?_⟩ | fail))
  all_goals (simp_all [sumS])
theorem c_l25Sum (s : DServer) (k : Nat) (_ : k ≤ 8) (h : bigS s) : FnAt Try.prog 58 [.agg (DServer.e s), .one (I k)] [.agg (DDatabase.r (sumD s.Rows (s.Received.drop k)))] := by
  have hx := h.1
  have hm := lenm DReceivedShare.e s.Received
  have hdl : (s.Received.drop k).length = s.Received.length - k := List.length_drop
  have hd : ∀ (j : Nat) (hj : j < (s.Received.drop k).length), (s.Received.drop k)[j] = s.Received[k + j]'(by omega) := fun j hj => by rw [List.getElem_drop]
  have hb2 : ∀ r ∈ s.Received.drop k, bigB r.Share.Rows := fun r hr => h.2 r (List.mem_of_mem_drop hr)
  have hb : ∀ i, bigB (sumD s.Rows ((s.Received.drop k).take i)).Rows := fun i => sumD_big _ _ (fun r hr => hb2 r (List.mem_of_mem_take hr))
  refine fn_of Try.func58 rfl (by kernel_rfl) rfl ?_
  all_goals repeat' (first | (with_reducible rfl) | ((conv => whnf); first | exact trivial | (with_reducible rfl) | exact (rfl : (0 : Int) = ((0 : Nat) : Int)) | exact w64_nat arith | refine bcase_T (by first | with_reducible rfl | decide) ?_ | refine bcase_F (by first | with_reducible rfl | decide) ?_ | refine bcase_dec (fun _ => ?_) (fun _ => ?_) | refine bcase_not ?_ | refine bcase_intro (fun _ => ?_) (fun _ => ?_) | refine ⟨(by with_reducible rfl), ?_⟩ | refine ⟨congrArg vi ?_, ?_⟩ | refine ⟨congrArg vb ?_, ?_⟩ | refine ⟨rfl, ?_⟩ | refine ⟨(by kernel_rfl : drawOK _ = true), ?_⟩ | refine Or.inl ?_ | refine ⟨⟨congrArg (T.int _) ?_, rfl⟩, ?_⟩ | refine ⟨⟨congrArg T.bool ?_, rfl⟩, ?_⟩ | refine ⟨⟨rfl, Nat.le_of_ble_eq_true rfl⟩, ?_⟩ | refine ⟨⟨rfl, rfl⟩, ?_⟩ | refine ⟨⟨rfl, (by decide)⟩, ?_⟩ | refine ⟨⟨rfl, ?_⟩, ?_⟩ | refine ⟨Or.inr rfl, ?_⟩ | refine ⟨Or.inl rfl, ?_⟩ | refine ⟨⟨⟨rfl, rfl, rfl⟩, ?_⟩, ?_⟩ | refine ⟨_, _, rfl, row_get _ _ arith, rfl, ?_⟩ | refine ⟨Or.inr (by repeat (first | exact trivial | refine ⟨rfl, ?_⟩)), ?_⟩ | refine ⟨(?_ : _ = ([] : List (List T))), ?_⟩ | refine ⟨_, c_sNewDatabase _, ?_⟩ | fail))
  conv => whnf
  refine ⟨Nat, fun i => i ≤ (s.Received.drop k).length, fun i => ⟨[(2, .ptr 0 0), (4, .ptr 1 0), (5, .ptr 2 0), (6, vi ((k + i : Nat) : Int))], [(0, .box [.t (I s.Id), .t (I s.Rows), .t (I s.Round), .t (L DReceivedShare.e s.Received), .t (I s.Behavior)]), (1, .box [.nil]), (2, .box [.ref 3]), (3, .row true true 1 ((sumD s.Rows ((s.Received.drop k).take i)).Rows.map (eL eU)))], 4⟩, fun i => (s.Received.drop k).length - i, 0, Nat.zero_le _, sub_at2 [(0, 2, 0), (1, 4, 0), (2, 5, 0), (3, 5, 1)] rfl rfl rfl ?_ ?_, fun i (hi : i ≤ (s.Received.drop k).length) => ?_⟩
  all_goals repeat' (first | (with_reducible rfl) | ((conv => whnf); first | exact trivial | (with_reducible rfl) | exact (rfl : (0 : Int) = ((0 : Nat) : Int)) | exact w64_nat arith | refine bcase_T (by first | with_reducible rfl | decide) ?_ | refine bcase_F (by first | with_reducible rfl | decide) ?_ | refine bcase_dec (fun _ => ?_) (fun _ => ?_) | refine bcase_not ?_ | refine bcase_intro (fun _ => ?_) (fun _ => ?_) | refine ⟨(by with_reducible rfl), ?_⟩ | refine ⟨congrArg vi ?_, ?_⟩ | refine ⟨congrArg vb ?_, ?_⟩ | refine ⟨rfl, ?_⟩ | refine ⟨(by kernel_rfl : drawOK _ = true), ?_⟩ | refine Or.inl ?_ | refine ⟨⟨congrArg (T.int _) ?_, rfl⟩, ?_⟩ | refine ⟨⟨congrArg T.bool ?_, rfl⟩, ?_⟩ | refine ⟨⟨rfl, Nat.le_of_ble_eq_true rfl⟩, ?_⟩ | refine ⟨⟨rfl, rfl⟩, ?_⟩ | refine ⟨⟨rfl, (by decide)⟩, ?_⟩ | refine ⟨⟨rfl, ?_⟩, ?_⟩ | refine ⟨Or.inr rfl, ?_⟩ | refine ⟨Or.inl rfl, ?_⟩ | refine ⟨⟨⟨rfl, rfl, rfl⟩, ?_⟩, ?_⟩ | refine ⟨_, _, rfl, row_get _ _ arith, rfl, ?_⟩ | refine ⟨Or.inr (by repeat (first | exact trivial | refine ⟨rfl, ?_⟩)), ?_⟩ | refine ⟨(?_ : _ = ([] : List (List T))), ?_⟩ | refine ⟨_, c_sXorDatabases (sumD s.Rows ((s.Received.drop k).take i)) (s.Received[k + i]'(by omega)).Share (hb i) (h.2 _ (List.getElem_mem _)), ?_⟩ | refine ⟨k + i, _, rfl, row_get _ _ (by omega), rfl, ?_⟩ | refine ⟨i + 1, ⟨arith, arith⟩, sub_at2 [(0, 2, 0), (1, 4, 0), (2, 5, 0), (3, 5, 1)] rfl rfl rfl ?_ ?_⟩ | fail))
  all_goals first
    | rfl
    | (rw [w64_ok (by omega) (by omega)]; omega)
    | (rw [sumD_take _ _ (show i < (s.Received.drop k).length by omega), hd i (by omega)]; done)
    | (rw [take_all _ (by omega)]; done)
    | skip
theorem c_sSumOfShares (s : DServer) (h : bigS s) : FnAt Try.prog 31 [.agg (DServer.e s)] [.agg (DDatabase.r (sumS s))] := by
  refine fn_of Try.func31 rfl (by kernel_rfl) rfl ?_
  all_goals repeat' (first | (with_reducible rfl) | ((conv => whnf); first | exact trivial | (with_reducible rfl) | exact (rfl : (0 : Int) = ((0 : Nat) : Int)) | exact w64_nat arith | refine bcase_T (by first | with_reducible rfl | decide) ?_ | refine bcase_F (by first | with_reducible rfl | decide) ?_ | refine bcase_dec (fun _ => ?_) (fun _ => ?_) | refine bcase_not ?_ | refine bcase_intro (fun _ => ?_) (fun _ => ?_) | refine ⟨(by with_reducible rfl), ?_⟩ | refine ⟨congrArg vi ?_, ?_⟩ | refine ⟨congrArg vb ?_, ?_⟩ | refine ⟨rfl, ?_⟩ | refine ⟨(by kernel_rfl : drawOK _ = true), ?_⟩ | refine Or.inl ?_ | refine ⟨⟨congrArg (T.int _) ?_, rfl⟩, ?_⟩ | refine ⟨⟨congrArg T.bool ?_, rfl⟩, ?_⟩ | refine ⟨⟨rfl, Nat.le_of_ble_eq_true rfl⟩, ?_⟩ | refine ⟨⟨rfl, rfl⟩, ?_⟩ | refine ⟨⟨rfl, (by decide)⟩, ?_⟩ | refine ⟨⟨rfl, ?_⟩, ?_⟩ | refine ⟨Or.inr rfl, ?_⟩ | refine ⟨Or.inl rfl, ?_⟩ | refine ⟨⟨⟨rfl, rfl, rfl⟩, ?_⟩, ?_⟩ | refine ⟨_, _, rfl, row_get _ _ arith, rfl, ?_⟩ | refine ⟨Or.inr (by repeat (first | exact trivial | refine ⟨rfl, ?_⟩)), ?_⟩ | refine ⟨(?_ : _ = ([] : List (List T))), ?_⟩ | refine ⟨_, c_sIsValidServer s h, ?_⟩ | refine ⟨_, c_l25Sum s 0 (by decide) h, ?_⟩ | fail))
  all_goals (simp_all [sumS])
def isSpoiled (l : List DServer) (p : List DDatabase) : Bool := !joinHas p || !joinHas (l.map sumS) || !((joinDb p).Rows == (joinDb (l.map sumS)).Rows)
theorem sumS_big (s : DServer) (h : bigS s) : bigB (sumS s).Rows := by
  unfold sumS
  split
  · exact sumD_big _ _ h.2
  · exact ⟨by simp, by simp⟩
theorem joinF_big : ∀ (l : List DDatabase) (d x : DDatabase), bigB d.Rows → (∀ y ∈ l, bigB y.Rows) → joinF d l = some x → bigB x.Rows
  | [], d, x, hd, _, h => by injection h with h; subst h; exact hd
  | s :: r, d, x, hd, hl, h => by
    simp only [joinF] at h
    split at h
    · exact joinF_big r _ x (bigB_xor hd (hl s (by simp))) (fun y hy => hl y (by simp [hy])) h
    · cases h
theorem joinDb_big (l : List DDatabase) (h : bigL l) : bigB (joinDb l).Rows := by
  unfold joinDb
  cases e : joinW l with
  | none => exact ⟨by simp, by simp⟩
  | some x =>
    cases l with
    | nil => simp [joinW] at e
    | cons d r =>
      simp only [joinW] at e
      split at e
      · exact joinF_big r d x (h.2 d (by simp)) (fun y hy => h.2 y (by simp [hy])) e
      · cases e
def bigSs (l : List DServer) : Prop := l.length ≤ 1099511627776 ∧ ∀ s ∈ l, bigS s
theorem bigL_sums {l : List DServer} (h : bigSs l) : bigL (l.map sumS) := ⟨by rw [List.length_map]; exact h.1, fun d hd => by obtain ⟨s, hs, rfl⟩ := List.mem_map.1 hd; exact sumS_big s (h.2 s hs)⟩
theorem sums_take (l : List DServer) {i : Nat} (h : i < l.length) : ((l.take (i + 1)).map sumS).map DDatabase.e = ((l.take i).map sumS).map DDatabase.e ++ [DDatabase.e (sumS l[i])] := by
  rw [map_take_succ sumS l h, List.map_append]
  rfl
theorem c_sIsSpoiled (l : List DServer) (p : List DDatabase) (h : bigSs l) (hp : bigL p) : FnAt Try.prog 15 [.one (L DServer.e l), .one (L DDatabase.e p)] [.one (.s (.bool (isSpoiled l p)))] := by
  have hx := h.1
  have hm := lenm DServer.e l
  refine fn_of Try.func15 rfl (by kernel_rfl) rfl ?_
  all_goals repeat' (first | (with_reducible rfl) | ((conv => whnf); first | exact trivial | (with_reducible rfl) | exact (rfl : (0 : Int) = ((0 : Nat) : Int)) | exact w64_nat arith | refine bcase_T (by first | with_reducible rfl | decide) ?_ | refine bcase_F (by first | with_reducible rfl | decide) ?_ | refine bcase_dec (fun _ => ?_) (fun _ => ?_) | refine bcase_not ?_ | refine bcase_intro (fun _ => ?_) (fun _ => ?_) | refine ⟨(by with_reducible rfl), ?_⟩ | refine ⟨congrArg vi ?_, ?_⟩ | refine ⟨congrArg vb ?_, ?_⟩ | refine ⟨rfl, ?_⟩ | refine ⟨(by kernel_rfl : drawOK _ = true), ?_⟩ | refine Or.inl ?_ | refine ⟨⟨congrArg (T.int _) ?_, rfl⟩, ?_⟩ | refine ⟨⟨congrArg T.bool ?_, rfl⟩, ?_⟩ | refine ⟨⟨rfl, Nat.le_of_ble_eq_true rfl⟩, ?_⟩ | refine ⟨⟨rfl, rfl⟩, ?_⟩ | refine ⟨⟨rfl, (by decide)⟩, ?_⟩ | refine ⟨⟨rfl, ?_⟩, ?_⟩ | refine ⟨Or.inr rfl, ?_⟩ | refine ⟨Or.inl rfl, ?_⟩ | refine ⟨⟨⟨rfl, rfl, rfl⟩, ?_⟩, ?_⟩ | refine ⟨_, _, rfl, row_get _ _ arith, rfl, ?_⟩ | refine ⟨Or.inr (by repeat (first | exact trivial | refine ⟨rfl, ?_⟩)), ?_⟩ | refine ⟨(?_ : _ = ([] : List (List T))), ?_⟩ | fail))
  conv => whnf
  refine ⟨Nat, fun i => i ≤ l.length, fun i => ⟨[(0, vl (l.map DServer.e)), (1, vl (p.map DDatabase.e)), (5, .c (.ref 0)), (6, vi i)], [(0, .row true true 1 (((l.take i).map sumS).map DDatabase.e))], 1⟩, fun i => l.length - i, 0, Nat.zero_le _, sub_at [(0, 5)] rfl rfl rfl ?_ ?_, fun i (hi : i ≤ l.length) => ?_⟩
  all_goals repeat' (first | (with_reducible rfl) | ((conv => whnf); first | exact trivial | (with_reducible rfl) | exact (rfl : (0 : Int) = ((0 : Nat) : Int)) | exact w64_nat arith | refine bcase_T (by first | with_reducible rfl | decide) ?_ | refine bcase_F (by first | with_reducible rfl | decide) ?_ | refine bcase_dec (fun _ => ?_) (fun _ => ?_) | refine bcase_not ?_ | refine bcase_intro (fun _ => ?_) (fun _ => ?_) | refine ⟨(by with_reducible rfl), ?_⟩ | refine ⟨congrArg vi ?_, ?_⟩ | refine ⟨congrArg vb ?_, ?_⟩ | refine ⟨rfl, ?_⟩ | refine ⟨(by kernel_rfl : drawOK _ = true), ?_⟩ | refine Or.inl ?_ | refine ⟨⟨congrArg (T.int _) ?_, rfl⟩, ?_⟩ | refine ⟨⟨congrArg T.bool ?_, rfl⟩, ?_⟩ | refine ⟨⟨rfl, Nat.le_of_ble_eq_true rfl⟩, ?_⟩ | refine ⟨⟨rfl, rfl⟩, ?_⟩ | refine ⟨⟨rfl, (by decide)⟩, ?_⟩ | refine ⟨⟨rfl, ?_⟩, ?_⟩ | refine ⟨Or.inr rfl, ?_⟩ | refine ⟨Or.inl rfl, ?_⟩ | refine ⟨⟨⟨rfl, rfl, rfl⟩, ?_⟩, ?_⟩ | refine ⟨_, _, rfl, row_get _ _ arith, rfl, ?_⟩ | refine ⟨Or.inr (by repeat (first | exact trivial | refine ⟨rfl, ?_⟩)), ?_⟩ | refine ⟨(?_ : _ = ([] : List (List T))), ?_⟩ | refine ⟨_, c_sSumOfShares (l[i]'(by omega)) (h.2 _ (List.getElem_mem _)), ?_⟩ | refine ⟨i, _, rfl, row_get _ _ (by omega), rfl, ?_⟩ | refine ⟨⟨bnd, bnd⟩, ?_⟩ | refine ⟨_, c_sRoundDatabase p hp, ?_⟩ | refine ⟨_, fn_arg1 (c_sJoinWrites (l.map sumS) (bigL_sums h)) (by rw [take_all _ (by omega)]), ?_⟩ | refine ⟨_, c_sEqualDatabases (joinDb p) (joinDb (l.map sumS)) (joinDb_big p hp), ?_⟩ | refine ⟨i + 1, ⟨arith, arith⟩, sub_at [(0, 5)] rfl rfl rfl ?_ ?_⟩ | fail))
  all_goals first
    | (rw [sums_take l (by omega)]; rfl)
    | (simp_all [isSpoiled]; done)
    | skip
theorem c_IsSpoiled (l : List DServer) (p : List DDatabase) (h : bigSs l) (hp : bigL p) : FnAt Try.prog 13 [.one (L DServer.e l), .one (L DDatabase.e p)] [.one (.s (.bool (isSpoiled l p)))] := by
  have hx := h.1
  have hm := lenm DServer.e l
  refine fn_of Try.func13 rfl (by kernel_rfl) rfl ?_
  all_goals repeat' (first | (with_reducible rfl) | ((conv => whnf); first | exact trivial | (with_reducible rfl) | exact (rfl : (0 : Int) = ((0 : Nat) : Int)) | exact w64_nat arith | refine bcase_T (by first | with_reducible rfl | decide) ?_ | refine bcase_F (by first | with_reducible rfl | decide) ?_ | refine bcase_dec (fun _ => ?_) (fun _ => ?_) | refine bcase_not ?_ | refine bcase_intro (fun _ => ?_) (fun _ => ?_) | refine ⟨(by with_reducible rfl), ?_⟩ | refine ⟨congrArg vi ?_, ?_⟩ | refine ⟨congrArg vb ?_, ?_⟩ | refine ⟨rfl, ?_⟩ | refine ⟨(by kernel_rfl : drawOK _ = true), ?_⟩ | refine Or.inl ?_ | refine ⟨⟨congrArg (T.int _) ?_, rfl⟩, ?_⟩ | refine ⟨⟨congrArg T.bool ?_, rfl⟩, ?_⟩ | refine ⟨⟨rfl, Nat.le_of_ble_eq_true rfl⟩, ?_⟩ | refine ⟨⟨rfl, rfl⟩, ?_⟩ | refine ⟨⟨rfl, (by decide)⟩, ?_⟩ | refine ⟨⟨rfl, ?_⟩, ?_⟩ | refine ⟨Or.inr rfl, ?_⟩ | refine ⟨Or.inl rfl, ?_⟩ | refine ⟨⟨⟨rfl, rfl, rfl⟩, ?_⟩, ?_⟩ | refine ⟨_, _, rfl, row_get _ _ arith, rfl, ?_⟩ | refine ⟨Or.inr (by repeat (first | exact trivial | refine ⟨rfl, ?_⟩)), ?_⟩ | refine ⟨(?_ : _ = ([] : List (List T))), ?_⟩ | refine ⟨_, c_RoundDatabase p hp, ?_⟩ | fail))
  conv => whnf
  refine ⟨Nat, fun i => i ≤ l.length, fun i => ⟨[(5, .ptr 0 0), (6, vb (joinHas p)), (7, .c (.ref 2)), (18, vl (l.map DServer.e)), (19, vi l.length), (20, vi i)], [(0, .box [.ref 1]), (1, .row true true 1 ((joinDb p).Rows.map (eL eU))), (2, .row true true 1 (((l.take i).map sumS).map DDatabase.e))], 3⟩, fun i => l.length - i, 0, Nat.zero_le _, sub_at2 [(0, 5, 0), (1, 5, 1), (2, 7, 0)] rfl rfl rfl ?_ ?_, fun i (hi : i ≤ l.length) => ?_⟩
  all_goals repeat' (first | (with_reducible rfl) | ((conv => whnf); first | exact trivial | (with_reducible rfl) | exact (rfl : (0 : Int) = ((0 : Nat) : Int)) | exact w64_nat arith | refine bcase_T (by first | with_reducible rfl | decide) ?_ | refine bcase_F (by first | with_reducible rfl | decide) ?_ | refine bcase_dec (fun _ => ?_) (fun _ => ?_) | refine bcase_not ?_ | refine bcase_intro (fun _ => ?_) (fun _ => ?_) | refine ⟨(by with_reducible rfl), ?_⟩ | refine ⟨congrArg vi ?_, ?_⟩ | refine ⟨congrArg vb ?_, ?_⟩ | refine ⟨rfl, ?_⟩ | refine ⟨(by kernel_rfl : drawOK _ = true), ?_⟩ | refine Or.inl ?_ | refine ⟨⟨congrArg (T.int _) ?_, rfl⟩, ?_⟩ | refine ⟨⟨congrArg T.bool ?_, rfl⟩, ?_⟩ | refine ⟨⟨rfl, Nat.le_of_ble_eq_true rfl⟩, ?_⟩ | refine ⟨⟨rfl, rfl⟩, ?_⟩ | refine ⟨⟨rfl, (by decide)⟩, ?_⟩ | refine ⟨⟨rfl, ?_⟩, ?_⟩ | refine ⟨Or.inr rfl, ?_⟩ | refine ⟨Or.inl rfl, ?_⟩ | refine ⟨⟨⟨rfl, rfl, rfl⟩, ?_⟩, ?_⟩ | refine ⟨_, _, rfl, row_get _ _ arith, rfl, ?_⟩ | refine ⟨Or.inr (by repeat (first | exact trivial | refine ⟨rfl, ?_⟩)), ?_⟩ | refine ⟨(?_ : _ = ([] : List (List T))), ?_⟩ | refine ⟨_, c_SumOfShares (l[i]'(by omega)) (h.2 _ (List.getElem_mem _)), ?_⟩ | refine ⟨⟨bnd, bnd⟩, ?_⟩ | refine ⟨_, fn_arg1 (c_JoinWrites (l.map sumS) (bigL_sums h)) (by rw [take_all _ (by omega)]), ?_⟩ | refine ⟨_, c_EqualDatabases (joinDb p) (joinDb (l.map sumS)) (joinDb_big p hp), ?_⟩ | refine ⟨i + 1, ⟨arith, arith⟩, sub_at2 [(0, 5, 0), (1, 5, 1), (2, 7, 0)] rfl rfl rfl ?_ ?_⟩ | fail))
  all_goals first
    | (rw [List.length_map]; done)
    | (rw [sums_take l (by omega)]; rfl)
    | (simp_all [isSpoiled]; done)
    | skip
end Go.Proofs.Ytpipfobdfcnghaa
