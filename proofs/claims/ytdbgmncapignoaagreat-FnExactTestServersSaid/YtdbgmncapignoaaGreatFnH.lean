/-
  Contracts of the statements' own helpers, written by a program of ours by type.
  Conditions: none.
-/
import Derived.Test.YtdbgmncapignoaaGreatFnZ
namespace Go.Proofs.YtdbgmncapignoaaGreat
set_option maxHeartbeats 4000000
set_option maxRecDepth 20000
open Go.Vm Go.RowKit
attribute [local irreducible] FnAt MutAt InAt JAt CurAt

theorem szS_ub {n : Nat} {k M : Int} (h : k ≤ M) (hM : -1 ≤ M) : szS n k ≤ M := by unfold szS; split <;> omega
theorem szS_T {a b : Nat} {k : Int} (h : ¬ szS a k < 0) : szS (a + b) k = szS b (szS a k) := by
  rw [(szS_le h).2]; have := (szS_le h).1; unfold szS; split <;> split <;> omega
theorem szS_m1 {a : Nat} {k : Int} (h : szS a k < 0) : szS a k = -1 := by
  unfold szS at *; split at h <;> simp_all <;> omega
theorem szS_F {a b : Nat} {k : Int} (h : szS a k < 0) : szS (a + b) k = -1 := by
  unfold szS at *; split at h
  · rw [if_pos (by omega)]
  · omega
theorem c_szByteS (x : (List UInt8)) (k : Int) (hx : (okL okU) x) (hk : 0 ≤ k ∧ k ≤ 1000000000000) : FnAt Tryz.prog 224 [.one (L eU x), .one (I k)] [.one (.s (I (szS (List.length x) k)))] := by
  have hl := hx.1
  have hw := w64_ok (n := k - (x.length : Int)) (by simp only [maxLen] at hl; omega) (by simp only [maxLen] at hl; omega)
  refine fn_of Tryz.func224 rfl (by kernel_rfl) rfl ?_
  all_goals repeat' (first
    | (with_reducible rfl)
    | (conv => whnf
       first
         | exact trivial
         | (with_reducible rfl)
         | exact (rfl : (0 : Int) = ((0 : Nat) : Int))
         | exact w64_nat arith
         | refine bcase_T (by first | with_reducible rfl | decide) ?_
         | refine bcase_F (by first | with_reducible rfl | decide) ?_
         | refine bcase_dec (fun _ => ?_) (fun _ => ?_)
         | refine bcase_not ?_
         | refine bcase_intro (fun _ => ?_) (fun _ => ?_)
         | refine ⟨(by with_reducible rfl), ?_⟩
         | refine ⟨congrArg vi ?_, ?_⟩
         | refine ⟨congrArg vb ?_, ?_⟩
         | refine ⟨rfl, ?_⟩
         | refine ⟨(by kernel_rfl : drawOK _ = true), ?_⟩
         | refine Or.inl ?_
         | refine ⟨⟨congrArg (T.int _) ?_, rfl⟩, ?_⟩
         | refine ⟨⟨congrArg T.bool ?_, rfl⟩, ?_⟩
         | refine ⟨⟨rfl, Nat.le_of_ble_eq_true rfl⟩, ?_⟩
         | refine ⟨⟨rfl, rfl⟩, ?_⟩
         | refine ⟨⟨rfl, (by decide)⟩, ?_⟩
         | refine ⟨⟨rfl, ?_⟩, ?_⟩
         | refine ⟨Or.inr rfl, ?_⟩
         | refine ⟨Or.inl rfl, ?_⟩
         | refine ⟨⟨⟨rfl, rfl, rfl⟩, ?_⟩, ?_⟩
         | refine ⟨_, _, rfl, row_get _ _ arith, rfl, ?_⟩
         | refine ⟨Or.inr (by repeat (first | exact trivial | refine ⟨rfl, ?_⟩)), ?_⟩
         | refine ⟨(?_ : _ = ([] : List (List T))), ?_⟩
         | fail))
  all_goals simp only [List.length_map, hw, szS] at *
  · rw [if_pos (by omega)]
  · rw [if_neg (by omega)]
theorem c_szByteSS (x : (List (List UInt8))) (k : Int) (hx : (okL (okL okU)) x) (hk : 0 ≤ k ∧ k ≤ 1000000000000) : FnAt Tryz.prog 200 [.one (L (eL eU) x), .one (I k)] [.one (.s (I (szS ((szL List.length) x) k)))] := by
  have hl := hx.1
  have hw := w64_ok (n := k - (x.length : Int)) (by simp only [maxLen] at hl; omega) (by simp only [maxLen] at hl; omega)
  refine fn_of Tryz.func200 rfl (by kernel_rfl) rfl ?_
  all_goals repeat' (first
    | (with_reducible rfl)
    | (conv => whnf
       first
         | exact trivial
         | (with_reducible rfl)
         | exact (rfl : (0 : Int) = ((0 : Nat) : Int))
         | exact w64_nat arith
         | refine bcase_T (by first | with_reducible rfl | decide) ?_
         | refine bcase_F (by first | with_reducible rfl | decide) ?_
         | refine bcase_dec (fun _ => ?_) (fun _ => ?_)
         | refine bcase_not ?_
         | refine bcase_intro (fun _ => ?_) (fun _ => ?_)
         | refine ⟨(by with_reducible rfl), ?_⟩
         | refine ⟨congrArg vi ?_, ?_⟩
         | refine ⟨congrArg vb ?_, ?_⟩
         | refine ⟨rfl, ?_⟩
         | refine ⟨(by kernel_rfl : drawOK _ = true), ?_⟩
         | refine Or.inl ?_
         | refine ⟨⟨congrArg (T.int _) ?_, rfl⟩, ?_⟩
         | refine ⟨⟨congrArg T.bool ?_, rfl⟩, ?_⟩
         | refine ⟨⟨rfl, Nat.le_of_ble_eq_true rfl⟩, ?_⟩
         | refine ⟨⟨rfl, rfl⟩, ?_⟩
         | refine ⟨⟨rfl, (by decide)⟩, ?_⟩
         | refine ⟨⟨rfl, ?_⟩, ?_⟩
         | refine ⟨Or.inr rfl, ?_⟩
         | refine ⟨Or.inl rfl, ?_⟩
         | refine ⟨⟨⟨rfl, rfl, rfl⟩, ?_⟩, ?_⟩
         | refine ⟨_, _, rfl, row_get _ _ arith, rfl, ?_⟩
         | refine ⟨Or.inr (by repeat (first | exact trivial | refine ⟨rfl, ?_⟩)), ?_⟩
         | refine ⟨(?_ : _ = ([] : List (List T))), ?_⟩
         | fail))
  · rw [szS_lt]; have := szL_len List.length x; simp only [List.length_map, hw] at *; omega
  conv => whnf
  have hk2 : (x.length : Int) ≤ k := by simp only [List.length_map, hw] at *; omega
  refine ⟨Nat, fun i => i ≤ x.length ∧ ((x.length + pre List.length x i : Nat) : Int) ≤ k, fun i => ⟨[(0, vl (x.map (eL eU))), (1, vi (k - (x.length + pre List.length x i : Nat))), (5, vi i)], [], 0⟩, fun i => x.length - i, 0, ⟨Nat.zero_le _, by rw [pre_zero]; omega⟩, ⟨[], rfl, rfl, rfl, ?_, ?_⟩, fun i hi => ?_⟩
  all_goals repeat' (first
    | (with_reducible rfl)
    | (conv => whnf
       first
         | exact trivial
         | (with_reducible rfl)
         | exact (rfl : (0 : Int) = ((0 : Nat) : Int))
         | exact w64_nat arith
         | refine bcase_T (by first | with_reducible rfl | decide) ?_
         | refine bcase_F (by first | with_reducible rfl | decide) ?_
         | refine bcase_dec (fun _ => ?_) (fun _ => ?_)
         | refine bcase_not ?_
         | refine bcase_intro (fun _ => ?_) (fun _ => ?_)
         | refine ⟨(by with_reducible rfl), ?_⟩
         | refine ⟨congrArg vi ?_, ?_⟩
         | refine ⟨congrArg vb ?_, ?_⟩
         | refine ⟨rfl, ?_⟩
         | refine ⟨(by kernel_rfl : drawOK _ = true), ?_⟩
         | refine Or.inl ?_
         | refine ⟨⟨congrArg (T.int _) ?_, rfl⟩, ?_⟩
         | refine ⟨⟨congrArg T.bool ?_, rfl⟩, ?_⟩
         | refine ⟨⟨rfl, Nat.le_of_ble_eq_true rfl⟩, ?_⟩
         | refine ⟨⟨rfl, rfl⟩, ?_⟩
         | refine ⟨⟨rfl, (by decide)⟩, ?_⟩
         | refine ⟨⟨rfl, ?_⟩, ?_⟩
         | refine ⟨Or.inr rfl, ?_⟩
         | refine ⟨Or.inl rfl, ?_⟩
         | refine ⟨⟨⟨rfl, rfl, rfl⟩, ?_⟩, ?_⟩
         | refine ⟨_, _, rfl, row_get _ _ arith, rfl, ?_⟩
         | refine ⟨Or.inr (by repeat (first | exact trivial | refine ⟨rfl, ?_⟩)), ?_⟩
         | refine ⟨(?_ : _ = ([] : List (List T))), ?_⟩
         | refine ⟨_, c_szByteS _ _ (hx.2 _ (List.getElem_mem _)) (by have h1 := hi.2; omega), ?_⟩
         | refine ⟨i + 1, ⟨⟨arith, by rw [pre_succ List.length x arith]; have h1 := szS_le (by assumption); omega⟩, arith⟩, ⟨[], rfl, rfl, rfl, ?_, ?_⟩⟩
         | fail))
  · rw [pre_zero]; simp only [List.length_map, hw]; omega
  · rw [szS_lt]; have h0 := lt_map (by assumption); have h1 := szS_neg (by assumption) (by have h1 := hi.2; omega); have h2 := pre_succ List.length x h0; have h3 := pre_le List.length x (i + 1); simp only [szL]; omega
  · rw [pre_succ List.length x arith, (szS_le (by assumption)).2]; omega
  · have h0 := ge_map (by assumption); have h1 := pre_all List.length x h0; have h2 := hi.2; rw [szS_pos] <;> simp only [szL] <;> omega
theorem c_szDatabase (x : DDatabase) (k : Int) (hx : DDatabase.ok x) (hk : 0 ≤ k ∧ k ≤ 1000000000000) : FnAt Tryz.prog 201 [.agg (DDatabase.e x), .one (I k)] [.one (.s (I (szS (DDatabase.sz x) k)))] := by
  have hk0 := hk.1
  have hk1 := hk.2
  refine fn_of Tryz.func201 rfl (by kernel_rfl) rfl ?_
  all_goals repeat' (first
    | (with_reducible rfl)
    | (conv => whnf
       first
         | exact trivial
         | (with_reducible rfl)
         | exact (rfl : (0 : Int) = ((0 : Nat) : Int))
         | exact w64_nat arith
         | refine bcase_T (by first | with_reducible rfl | decide) ?_
         | refine bcase_F (by first | with_reducible rfl | decide) ?_
         | refine bcase_dec (fun _ => ?_) (fun _ => ?_)
         | refine bcase_not ?_
         | refine bcase_intro (fun _ => ?_) (fun _ => ?_)
         | refine ⟨(by with_reducible rfl), ?_⟩
         | refine ⟨congrArg vi ?_, ?_⟩
         | refine ⟨congrArg vb ?_, ?_⟩
         | refine ⟨rfl, ?_⟩
         | refine ⟨(by kernel_rfl : drawOK _ = true), ?_⟩
         | refine Or.inl ?_
         | refine ⟨⟨congrArg (T.int _) ?_, rfl⟩, ?_⟩
         | refine ⟨⟨congrArg T.bool ?_, rfl⟩, ?_⟩
         | refine ⟨⟨rfl, Nat.le_of_ble_eq_true rfl⟩, ?_⟩
         | refine ⟨⟨rfl, rfl⟩, ?_⟩
         | refine ⟨⟨rfl, (by decide)⟩, ?_⟩
         | refine ⟨⟨rfl, ?_⟩, ?_⟩
         | refine ⟨Or.inr rfl, ?_⟩
         | refine ⟨Or.inl rfl, ?_⟩
         | refine ⟨⟨⟨rfl, rfl, rfl⟩, ?_⟩, ?_⟩
         | refine ⟨_, _, rfl, row_get _ _ arith, rfl, ?_⟩
         | refine ⟨Or.inr (by repeat (first | exact trivial | refine ⟨rfl, ?_⟩)), ?_⟩
         | refine ⟨(?_ : _ = ([] : List (List T))), ?_⟩
         | refine ⟨_, c_szByteSS _ _ (by simp only [DDatabase.ok] at hx; first | exact hx | exact hx.1 | exact hx.2 | (obtain ⟨_, _, _⟩ := hx; assumption) | (simp_all; done)) (by first | omega | (have h1 := szS_le (by assumption); omega) | (refine ⟨by omega, ?_⟩; repeat (first | assumption | refine szS_ub ?_ (by decide)))), ?_⟩
         | fail))
  all_goals (simp only [DDatabase.sz] <;> first | rfl | (simp (disch := assumption) only [Nat.add_assoc, szS_T, szS_F]; done) | (simp (disch := assumption) only [Nat.add_assoc, szS_T, szS_F]; first | exact (szS_m1 (by assumption)).symm | exact szS_m1 (by assumption)) | (simp only [szS] at *; grind))
theorem c_szReceivedShare (x : DReceivedShare) (k : Int) (hx : DReceivedShare.ok x) (hk : 0 ≤ k ∧ k ≤ 1000000000000) : FnAt Tryz.prog 199 [.agg (DReceivedShare.e x), .one (I k)] [.one (.s (I (szS (DReceivedShare.sz x) k)))] := by
  have hk0 := hk.1
  have hk1 := hk.2
  refine fn_of Tryz.func199 rfl (by kernel_rfl) rfl ?_
  all_goals repeat' (first
    | (with_reducible rfl)
    | (conv => whnf
       first
         | exact trivial
         | (with_reducible rfl)
         | exact (rfl : (0 : Int) = ((0 : Nat) : Int))
         | exact w64_nat arith
         | refine bcase_T (by first | with_reducible rfl | decide) ?_
         | refine bcase_F (by first | with_reducible rfl | decide) ?_
         | refine bcase_dec (fun _ => ?_) (fun _ => ?_)
         | refine bcase_not ?_
         | refine bcase_intro (fun _ => ?_) (fun _ => ?_)
         | refine ⟨(by with_reducible rfl), ?_⟩
         | refine ⟨congrArg vi ?_, ?_⟩
         | refine ⟨congrArg vb ?_, ?_⟩
         | refine ⟨rfl, ?_⟩
         | refine ⟨(by kernel_rfl : drawOK _ = true), ?_⟩
         | refine Or.inl ?_
         | refine ⟨⟨congrArg (T.int _) ?_, rfl⟩, ?_⟩
         | refine ⟨⟨congrArg T.bool ?_, rfl⟩, ?_⟩
         | refine ⟨⟨rfl, Nat.le_of_ble_eq_true rfl⟩, ?_⟩
         | refine ⟨⟨rfl, rfl⟩, ?_⟩
         | refine ⟨⟨rfl, (by decide)⟩, ?_⟩
         | refine ⟨⟨rfl, ?_⟩, ?_⟩
         | refine ⟨Or.inr rfl, ?_⟩
         | refine ⟨Or.inl rfl, ?_⟩
         | refine ⟨⟨⟨rfl, rfl, rfl⟩, ?_⟩, ?_⟩
         | refine ⟨_, _, rfl, row_get _ _ arith, rfl, ?_⟩
         | refine ⟨Or.inr (by repeat (first | exact trivial | refine ⟨rfl, ?_⟩)), ?_⟩
         | refine ⟨(?_ : _ = ([] : List (List T))), ?_⟩
         | refine ⟨_, c_szDatabase _ _ (by simp only [DReceivedShare.ok] at hx; first | exact hx | exact hx.1 | exact hx.2 | (obtain ⟨_, _, _⟩ := hx; assumption) | (simp_all; done)) (by first | omega | (have h1 := szS_le (by assumption); omega) | (refine ⟨by omega, ?_⟩; repeat (first | assumption | refine szS_ub ?_ (by decide)))), ?_⟩
         | fail))
  all_goals (simp only [DReceivedShare.sz] <;> first | rfl | (simp (disch := assumption) only [Nat.add_assoc, szS_T, szS_F]; done) | (simp (disch := assumption) only [Nat.add_assoc, szS_T, szS_F]; first | exact (szS_m1 (by assumption)).symm | exact szS_m1 (by assumption)) | (simp only [szS] at *; grind))
theorem c_szReceivedShareS (x : (List DReceivedShare)) (k : Int) (hx : (okL DReceivedShare.ok) x) (hk : 0 ≤ k ∧ k ≤ 1000000000000) : FnAt Tryz.prog 143 [.one (L DReceivedShare.e x), .one (I k)] [.one (.s (I (szS ((szL DReceivedShare.sz) x) k)))] := by
  have hl := hx.1
  have hw := w64_ok (n := k - (x.length : Int)) (by simp only [maxLen] at hl; omega) (by simp only [maxLen] at hl; omega)
  refine fn_of Tryz.func143 rfl (by kernel_rfl) rfl ?_
  all_goals repeat' (first
    | (with_reducible rfl)
    | (conv => whnf
       first
         | exact trivial
         | (with_reducible rfl)
         | exact (rfl : (0 : Int) = ((0 : Nat) : Int))
         | exact w64_nat arith
         | refine bcase_T (by first | with_reducible rfl | decide) ?_
         | refine bcase_F (by first | with_reducible rfl | decide) ?_
         | refine bcase_dec (fun _ => ?_) (fun _ => ?_)
         | refine bcase_not ?_
         | refine bcase_intro (fun _ => ?_) (fun _ => ?_)
         | refine ⟨(by with_reducible rfl), ?_⟩
         | refine ⟨congrArg vi ?_, ?_⟩
         | refine ⟨congrArg vb ?_, ?_⟩
         | refine ⟨rfl, ?_⟩
         | refine ⟨(by kernel_rfl : drawOK _ = true), ?_⟩
         | refine Or.inl ?_
         | refine ⟨⟨congrArg (T.int _) ?_, rfl⟩, ?_⟩
         | refine ⟨⟨congrArg T.bool ?_, rfl⟩, ?_⟩
         | refine ⟨⟨rfl, Nat.le_of_ble_eq_true rfl⟩, ?_⟩
         | refine ⟨⟨rfl, rfl⟩, ?_⟩
         | refine ⟨⟨rfl, (by decide)⟩, ?_⟩
         | refine ⟨⟨rfl, ?_⟩, ?_⟩
         | refine ⟨Or.inr rfl, ?_⟩
         | refine ⟨Or.inl rfl, ?_⟩
         | refine ⟨⟨⟨rfl, rfl, rfl⟩, ?_⟩, ?_⟩
         | refine ⟨_, _, rfl, row_get _ _ arith, rfl, ?_⟩
         | refine ⟨Or.inr (by repeat (first | exact trivial | refine ⟨rfl, ?_⟩)), ?_⟩
         | refine ⟨(?_ : _ = ([] : List (List T))), ?_⟩
         | fail))
  · rw [szS_lt]; have := szL_len DReceivedShare.sz x; simp only [List.length_map, hw] at *; omega
  conv => whnf
  have hk2 : (x.length : Int) ≤ k := by simp only [List.length_map, hw] at *; omega
  refine ⟨Nat, fun i => i ≤ x.length ∧ ((x.length + pre DReceivedShare.sz x i : Nat) : Int) ≤ k, fun i => ⟨[(0, vl (x.map DReceivedShare.e)), (1, vi (k - (x.length + pre DReceivedShare.sz x i : Nat))), (5, vi i)], [], 0⟩, fun i => x.length - i, 0, ⟨Nat.zero_le _, by rw [pre_zero]; omega⟩, ⟨[], rfl, rfl, rfl, ?_, ?_⟩, fun i hi => ?_⟩
  all_goals repeat' (first
    | (with_reducible rfl)
    | (conv => whnf
       first
         | exact trivial
         | (with_reducible rfl)
         | exact (rfl : (0 : Int) = ((0 : Nat) : Int))
         | exact w64_nat arith
         | refine bcase_T (by first | with_reducible rfl | decide) ?_
         | refine bcase_F (by first | with_reducible rfl | decide) ?_
         | refine bcase_dec (fun _ => ?_) (fun _ => ?_)
         | refine bcase_not ?_
         | refine bcase_intro (fun _ => ?_) (fun _ => ?_)
         | refine ⟨(by with_reducible rfl), ?_⟩
         | refine ⟨congrArg vi ?_, ?_⟩
         | refine ⟨congrArg vb ?_, ?_⟩
         | refine ⟨rfl, ?_⟩
         | refine ⟨(by kernel_rfl : drawOK _ = true), ?_⟩
         | refine Or.inl ?_
         | refine ⟨⟨congrArg (T.int _) ?_, rfl⟩, ?_⟩
         | refine ⟨⟨congrArg T.bool ?_, rfl⟩, ?_⟩
         | refine ⟨⟨rfl, Nat.le_of_ble_eq_true rfl⟩, ?_⟩
         | refine ⟨⟨rfl, rfl⟩, ?_⟩
         | refine ⟨⟨rfl, (by decide)⟩, ?_⟩
         | refine ⟨⟨rfl, ?_⟩, ?_⟩
         | refine ⟨Or.inr rfl, ?_⟩
         | refine ⟨Or.inl rfl, ?_⟩
         | refine ⟨⟨⟨rfl, rfl, rfl⟩, ?_⟩, ?_⟩
         | refine ⟨_, _, rfl, row_get _ _ arith, rfl, ?_⟩
         | refine ⟨Or.inr (by repeat (first | exact trivial | refine ⟨rfl, ?_⟩)), ?_⟩
         | refine ⟨(?_ : _ = ([] : List (List T))), ?_⟩
         | refine ⟨_, c_szReceivedShare _ _ (hx.2 _ (List.getElem_mem _)) (by have h1 := hi.2; omega), ?_⟩
         | refine ⟨i + 1, ⟨⟨arith, by rw [pre_succ DReceivedShare.sz x arith]; have h1 := szS_le (by assumption); omega⟩, arith⟩, ⟨[], rfl, rfl, rfl, ?_, ?_⟩⟩
         | fail))
  · rw [pre_zero]; simp only [List.length_map, hw]; omega
  · rw [szS_lt]; have h0 := lt_map (by assumption); have h1 := szS_neg (by assumption) (by have h1 := hi.2; omega); have h2 := pre_succ DReceivedShare.sz x h0; have h3 := pre_le DReceivedShare.sz x (i + 1); simp only [szL]; omega
  · rw [pre_succ DReceivedShare.sz x arith, (szS_le (by assumption)).2]; omega
  · have h0 := ge_map (by assumption); have h1 := pre_all DReceivedShare.sz x h0; have h2 := hi.2; rw [szS_pos] <;> simp only [szL] <;> omega
theorem c_szServer (x : DServer) (k : Int) (hx : DServer.ok x) (hk : 0 ≤ k ∧ k ≤ 1000000000000) : FnAt Tryz.prog 76 [.agg (DServer.e x), .one (I k)] [.one (.s (I (szS (DServer.sz x) k)))] := by
  have hk0 := hk.1
  have hk1 := hk.2
  refine fn_of Tryz.func76 rfl (by kernel_rfl) rfl ?_
  all_goals repeat' (first
    | (with_reducible rfl)
    | (conv => whnf
       first
         | exact trivial
         | (with_reducible rfl)
         | exact (rfl : (0 : Int) = ((0 : Nat) : Int))
         | exact w64_nat arith
         | refine bcase_T (by first | with_reducible rfl | decide) ?_
         | refine bcase_F (by first | with_reducible rfl | decide) ?_
         | refine bcase_dec (fun _ => ?_) (fun _ => ?_)
         | refine bcase_not ?_
         | refine bcase_intro (fun _ => ?_) (fun _ => ?_)
         | refine ⟨(by with_reducible rfl), ?_⟩
         | refine ⟨congrArg vi ?_, ?_⟩
         | refine ⟨congrArg vb ?_, ?_⟩
         | refine ⟨rfl, ?_⟩
         | refine ⟨(by kernel_rfl : drawOK _ = true), ?_⟩
         | refine Or.inl ?_
         | refine ⟨⟨congrArg (T.int _) ?_, rfl⟩, ?_⟩
         | refine ⟨⟨congrArg T.bool ?_, rfl⟩, ?_⟩
         | refine ⟨⟨rfl, Nat.le_of_ble_eq_true rfl⟩, ?_⟩
         | refine ⟨⟨rfl, rfl⟩, ?_⟩
         | refine ⟨⟨rfl, (by decide)⟩, ?_⟩
         | refine ⟨⟨rfl, ?_⟩, ?_⟩
         | refine ⟨Or.inr rfl, ?_⟩
         | refine ⟨Or.inl rfl, ?_⟩
         | refine ⟨⟨⟨rfl, rfl, rfl⟩, ?_⟩, ?_⟩
         | refine ⟨_, _, rfl, row_get _ _ arith, rfl, ?_⟩
         | refine ⟨Or.inr (by repeat (first | exact trivial | refine ⟨rfl, ?_⟩)), ?_⟩
         | refine ⟨(?_ : _ = ([] : List (List T))), ?_⟩
         | refine ⟨_, c_szReceivedShareS _ _ (by simp only [DServer.ok] at hx; first | exact hx | exact hx.1 | exact hx.2 | (obtain ⟨_, _, _⟩ := hx; assumption) | (simp_all; done)) (by first | omega | (have h1 := szS_le (by assumption); omega) | (refine ⟨by omega, ?_⟩; repeat (first | assumption | refine szS_ub ?_ (by decide)))), ?_⟩
         | fail))
  all_goals (simp only [DServer.sz] <;> first | rfl | (simp (disch := assumption) only [Nat.add_assoc, szS_T, szS_F]; done) | (simp (disch := assumption) only [Nat.add_assoc, szS_T, szS_F]; first | exact (szS_m1 (by assumption)).symm | exact szS_m1 (by assumption)) | (simp only [szS] at *; grind))
theorem c_szServerS (x : (List DServer)) (k : Int) (hx : (okL DServer.ok) x) (hk : 0 ≤ k ∧ k ≤ 1000000000000) : FnAt Tryz.prog 23 [.one (L DServer.e x), .one (I k)] [.one (.s (I (szS ((szL DServer.sz) x) k)))] := by
  have hl := hx.1
  have hw := w64_ok (n := k - (x.length : Int)) (by simp only [maxLen] at hl; omega) (by simp only [maxLen] at hl; omega)
  refine fn_of Tryz.func23 rfl (by kernel_rfl) rfl ?_
  all_goals repeat' (first
    | (with_reducible rfl)
    | (conv => whnf
       first
         | exact trivial
         | (with_reducible rfl)
         | exact (rfl : (0 : Int) = ((0 : Nat) : Int))
         | exact w64_nat arith
         | refine bcase_T (by first | with_reducible rfl | decide) ?_
         | refine bcase_F (by first | with_reducible rfl | decide) ?_
         | refine bcase_dec (fun _ => ?_) (fun _ => ?_)
         | refine bcase_not ?_
         | refine bcase_intro (fun _ => ?_) (fun _ => ?_)
         | refine ⟨(by with_reducible rfl), ?_⟩
         | refine ⟨congrArg vi ?_, ?_⟩
         | refine ⟨congrArg vb ?_, ?_⟩
         | refine ⟨rfl, ?_⟩
         | refine ⟨(by kernel_rfl : drawOK _ = true), ?_⟩
         | refine Or.inl ?_
         | refine ⟨⟨congrArg (T.int _) ?_, rfl⟩, ?_⟩
         | refine ⟨⟨congrArg T.bool ?_, rfl⟩, ?_⟩
         | refine ⟨⟨rfl, Nat.le_of_ble_eq_true rfl⟩, ?_⟩
         | refine ⟨⟨rfl, rfl⟩, ?_⟩
         | refine ⟨⟨rfl, (by decide)⟩, ?_⟩
         | refine ⟨⟨rfl, ?_⟩, ?_⟩
         | refine ⟨Or.inr rfl, ?_⟩
         | refine ⟨Or.inl rfl, ?_⟩
         | refine ⟨⟨⟨rfl, rfl, rfl⟩, ?_⟩, ?_⟩
         | refine ⟨_, _, rfl, row_get _ _ arith, rfl, ?_⟩
         | refine ⟨Or.inr (by repeat (first | exact trivial | refine ⟨rfl, ?_⟩)), ?_⟩
         | refine ⟨(?_ : _ = ([] : List (List T))), ?_⟩
         | fail))
  · rw [szS_lt]; have := szL_len DServer.sz x; simp only [List.length_map, hw] at *; omega
  conv => whnf
  have hk2 : (x.length : Int) ≤ k := by simp only [List.length_map, hw] at *; omega
  refine ⟨Nat, fun i => i ≤ x.length ∧ ((x.length + pre DServer.sz x i : Nat) : Int) ≤ k, fun i => ⟨[(0, vl (x.map DServer.e)), (1, vi (k - (x.length + pre DServer.sz x i : Nat))), (5, vi i)], [], 0⟩, fun i => x.length - i, 0, ⟨Nat.zero_le _, by rw [pre_zero]; omega⟩, ⟨[], rfl, rfl, rfl, ?_, ?_⟩, fun i hi => ?_⟩
  all_goals repeat' (first
    | (with_reducible rfl)
    | (conv => whnf
       first
         | exact trivial
         | (with_reducible rfl)
         | exact (rfl : (0 : Int) = ((0 : Nat) : Int))
         | exact w64_nat arith
         | refine bcase_T (by first | with_reducible rfl | decide) ?_
         | refine bcase_F (by first | with_reducible rfl | decide) ?_
         | refine bcase_dec (fun _ => ?_) (fun _ => ?_)
         | refine bcase_not ?_
         | refine bcase_intro (fun _ => ?_) (fun _ => ?_)
         | refine ⟨(by with_reducible rfl), ?_⟩
         | refine ⟨congrArg vi ?_, ?_⟩
         | refine ⟨congrArg vb ?_, ?_⟩
         | refine ⟨rfl, ?_⟩
         | refine ⟨(by kernel_rfl : drawOK _ = true), ?_⟩
         | refine Or.inl ?_
         | refine ⟨⟨congrArg (T.int _) ?_, rfl⟩, ?_⟩
         | refine ⟨⟨congrArg T.bool ?_, rfl⟩, ?_⟩
         | refine ⟨⟨rfl, Nat.le_of_ble_eq_true rfl⟩, ?_⟩
         | refine ⟨⟨rfl, rfl⟩, ?_⟩
         | refine ⟨⟨rfl, (by decide)⟩, ?_⟩
         | refine ⟨⟨rfl, ?_⟩, ?_⟩
         | refine ⟨Or.inr rfl, ?_⟩
         | refine ⟨Or.inl rfl, ?_⟩
         | refine ⟨⟨⟨rfl, rfl, rfl⟩, ?_⟩, ?_⟩
         | refine ⟨_, _, rfl, row_get _ _ arith, rfl, ?_⟩
         | refine ⟨Or.inr (by repeat (first | exact trivial | refine ⟨rfl, ?_⟩)), ?_⟩
         | refine ⟨(?_ : _ = ([] : List (List T))), ?_⟩
         | refine ⟨_, c_szServer _ _ (hx.2 _ (List.getElem_mem _)) (by have h1 := hi.2; omega), ?_⟩
         | refine ⟨i + 1, ⟨⟨arith, by rw [pre_succ DServer.sz x arith]; have h1 := szS_le (by assumption); omega⟩, arith⟩, ⟨[], rfl, rfl, rfl, ?_, ?_⟩⟩
         | fail))
  · rw [pre_zero]; simp only [List.length_map, hw]; omega
  · rw [szS_lt]; have h0 := lt_map (by assumption); have h1 := szS_neg (by assumption) (by have h1 := hi.2; omega); have h2 := pre_succ DServer.sz x h0; have h3 := pre_le DServer.sz x (i + 1); simp only [szL]; omega
  · rw [pre_succ DServer.sz x arith, (szS_le (by assumption)).2]; omega
  · have h0 := ge_map (by assumption); have h1 := pre_all DServer.sz x h0; have h2 := hi.2; rw [szS_pos] <;> simp only [szL] <;> omega
theorem c_szClient (x : DClient) (k : Int) (hx : DClient.ok x) (hk : 0 ≤ k ∧ k ≤ 1000000000000) : FnAt Tryz.prog 144 [.agg (DClient.e x), .one (I k)] [.one (.s (I (szS (DClient.sz x) k)))] := by
  have hk0 := hk.1
  have hk1 := hk.2
  refine fn_of Tryz.func144 rfl (by kernel_rfl) rfl ?_
  all_goals repeat' (first
    | (with_reducible rfl)
    | (conv => whnf
       first
         | exact trivial
         | (with_reducible rfl)
         | exact (rfl : (0 : Int) = ((0 : Nat) : Int))
         | exact w64_nat arith
         | refine bcase_T (by first | with_reducible rfl | decide) ?_
         | refine bcase_F (by first | with_reducible rfl | decide) ?_
         | refine bcase_dec (fun _ => ?_) (fun _ => ?_)
         | refine bcase_not ?_
         | refine bcase_intro (fun _ => ?_) (fun _ => ?_)
         | refine ⟨(by with_reducible rfl), ?_⟩
         | refine ⟨congrArg vi ?_, ?_⟩
         | refine ⟨congrArg vb ?_, ?_⟩
         | refine ⟨rfl, ?_⟩
         | refine ⟨(by kernel_rfl : drawOK _ = true), ?_⟩
         | refine Or.inl ?_
         | refine ⟨⟨congrArg (T.int _) ?_, rfl⟩, ?_⟩
         | refine ⟨⟨congrArg T.bool ?_, rfl⟩, ?_⟩
         | refine ⟨⟨rfl, Nat.le_of_ble_eq_true rfl⟩, ?_⟩
         | refine ⟨⟨rfl, rfl⟩, ?_⟩
         | refine ⟨⟨rfl, (by decide)⟩, ?_⟩
         | refine ⟨⟨rfl, ?_⟩, ?_⟩
         | refine ⟨Or.inr rfl, ?_⟩
         | refine ⟨Or.inl rfl, ?_⟩
         | refine ⟨⟨⟨rfl, rfl, rfl⟩, ?_⟩, ?_⟩
         | refine ⟨_, _, rfl, row_get _ _ arith, rfl, ?_⟩
         | refine ⟨Or.inr (by repeat (first | exact trivial | refine ⟨rfl, ?_⟩)), ?_⟩
         | refine ⟨(?_ : _ = ([] : List (List T))), ?_⟩
         | refine ⟨_, c_szByteSS _ _ (by simp only [DClient.ok] at hx; first | exact hx | exact hx.1 | exact hx.2 | (obtain ⟨_, _, _⟩ := hx; assumption) | (simp_all; done)) (by first | omega | (have h1 := szS_le (by assumption); omega) | (refine ⟨by omega, ?_⟩; repeat (first | assumption | refine szS_ub ?_ (by decide)))), ?_⟩
         | refine ⟨_, c_szByteSS _ _ (by simp only [DClient.ok] at hx; first | exact hx | exact hx.1 | exact hx.2 | (obtain ⟨_, _, _⟩ := hx; assumption) | (simp_all; done)) (by first | omega | (have h1 := szS_le (by assumption); omega) | (refine ⟨by omega, ?_⟩; repeat (first | assumption | refine szS_ub ?_ (by decide)))), ?_⟩
         | fail))
  all_goals (simp only [DClient.sz] <;> first | rfl | (simp (disch := assumption) only [Nat.add_assoc, szS_T, szS_F]; done) | (simp (disch := assumption) only [Nat.add_assoc, szS_T, szS_F]; first | exact (szS_m1 (by assumption)).symm | exact szS_m1 (by assumption)) | (simp only [szS] at *; grind))
theorem c_szDevice (x : DDevice) (k : Int) (hx : DDevice.ok x) (hk : 0 ≤ k ∧ k ≤ 1000000000000) : FnAt Tryz.prog 77 [.agg (DDevice.e x), .one (I k)] [.one (.s (I (szS (DDevice.sz x) k)))] := by
  have hk0 := hk.1
  have hk1 := hk.2
  refine fn_of Tryz.func77 rfl (by kernel_rfl) rfl ?_
  all_goals repeat' (first
    | (with_reducible rfl)
    | (conv => whnf
       first
         | exact trivial
         | (with_reducible rfl)
         | exact (rfl : (0 : Int) = ((0 : Nat) : Int))
         | exact w64_nat arith
         | refine bcase_T (by first | with_reducible rfl | decide) ?_
         | refine bcase_F (by first | with_reducible rfl | decide) ?_
         | refine bcase_dec (fun _ => ?_) (fun _ => ?_)
         | refine bcase_not ?_
         | refine bcase_intro (fun _ => ?_) (fun _ => ?_)
         | refine ⟨(by with_reducible rfl), ?_⟩
         | refine ⟨congrArg vi ?_, ?_⟩
         | refine ⟨congrArg vb ?_, ?_⟩
         | refine ⟨rfl, ?_⟩
         | refine ⟨(by kernel_rfl : drawOK _ = true), ?_⟩
         | refine Or.inl ?_
         | refine ⟨⟨congrArg (T.int _) ?_, rfl⟩, ?_⟩
         | refine ⟨⟨congrArg T.bool ?_, rfl⟩, ?_⟩
         | refine ⟨⟨rfl, Nat.le_of_ble_eq_true rfl⟩, ?_⟩
         | refine ⟨⟨rfl, rfl⟩, ?_⟩
         | refine ⟨⟨rfl, (by decide)⟩, ?_⟩
         | refine ⟨⟨rfl, ?_⟩, ?_⟩
         | refine ⟨Or.inr rfl, ?_⟩
         | refine ⟨Or.inl rfl, ?_⟩
         | refine ⟨⟨⟨rfl, rfl, rfl⟩, ?_⟩, ?_⟩
         | refine ⟨_, _, rfl, row_get _ _ arith, rfl, ?_⟩
         | refine ⟨Or.inr (by repeat (first | exact trivial | refine ⟨rfl, ?_⟩)), ?_⟩
         | refine ⟨(?_ : _ = ([] : List (List T))), ?_⟩
         | refine ⟨_, c_szClient _ _ (by simp only [DDevice.ok] at hx; first | exact hx | exact hx.1 | exact hx.2 | (obtain ⟨_, _, _⟩ := hx; assumption) | (simp_all; done)) (by first | omega | (have h1 := szS_le (by assumption); omega) | (refine ⟨by omega, ?_⟩; repeat (first | assumption | refine szS_ub ?_ (by decide)))), ?_⟩
         | refine ⟨_, c_szClient _ _ (by simp only [DDevice.ok] at hx; first | exact hx | exact hx.1 | exact hx.2 | (obtain ⟨_, _, _⟩ := hx; assumption) | (simp_all; done)) (by first | omega | (have h1 := szS_le (by assumption); omega) | (refine ⟨by omega, ?_⟩; repeat (first | assumption | refine szS_ub ?_ (by decide)))), ?_⟩
         | fail))
  all_goals (simp only [DDevice.sz] <;> first | rfl | (simp (disch := assumption) only [Nat.add_assoc, szS_T, szS_F]; done) | (simp (disch := assumption) only [Nat.add_assoc, szS_T, szS_F]; first | exact (szS_m1 (by assumption)).symm | exact szS_m1 (by assumption)) | (simp only [szS] at *; grind))
theorem c_szDeviceS (x : (List DDevice)) (k : Int) (hx : (okL DDevice.ok) x) (hk : 0 ≤ k ∧ k ≤ 1000000000000) : FnAt Tryz.prog 24 [.one (L DDevice.e x), .one (I k)] [.one (.s (I (szS ((szL DDevice.sz) x) k)))] := by
  have hl := hx.1
  have hw := w64_ok (n := k - (x.length : Int)) (by simp only [maxLen] at hl; omega) (by simp only [maxLen] at hl; omega)
  refine fn_of Tryz.func24 rfl (by kernel_rfl) rfl ?_
  all_goals repeat' (first
    | (with_reducible rfl)
    | (conv => whnf
       first
         | exact trivial
         | (with_reducible rfl)
         | exact (rfl : (0 : Int) = ((0 : Nat) : Int))
         | exact w64_nat arith
         | refine bcase_T (by first | with_reducible rfl | decide) ?_
         | refine bcase_F (by first | with_reducible rfl | decide) ?_
         | refine bcase_dec (fun _ => ?_) (fun _ => ?_)
         | refine bcase_not ?_
         | refine bcase_intro (fun _ => ?_) (fun _ => ?_)
         | refine ⟨(by with_reducible rfl), ?_⟩
         | refine ⟨congrArg vi ?_, ?_⟩
         | refine ⟨congrArg vb ?_, ?_⟩
         | refine ⟨rfl, ?_⟩
         | refine ⟨(by kernel_rfl : drawOK _ = true), ?_⟩
         | refine Or.inl ?_
         | refine ⟨⟨congrArg (T.int _) ?_, rfl⟩, ?_⟩
         | refine ⟨⟨congrArg T.bool ?_, rfl⟩, ?_⟩
         | refine ⟨⟨rfl, Nat.le_of_ble_eq_true rfl⟩, ?_⟩
         | refine ⟨⟨rfl, rfl⟩, ?_⟩
         | refine ⟨⟨rfl, (by decide)⟩, ?_⟩
         | refine ⟨⟨rfl, ?_⟩, ?_⟩
         | refine ⟨Or.inr rfl, ?_⟩
         | refine ⟨Or.inl rfl, ?_⟩
         | refine ⟨⟨⟨rfl, rfl, rfl⟩, ?_⟩, ?_⟩
         | refine ⟨_, _, rfl, row_get _ _ arith, rfl, ?_⟩
         | refine ⟨Or.inr (by repeat (first | exact trivial | refine ⟨rfl, ?_⟩)), ?_⟩
         | refine ⟨(?_ : _ = ([] : List (List T))), ?_⟩
         | fail))
  · rw [szS_lt]; have := szL_len DDevice.sz x; simp only [List.length_map, hw] at *; omega
  conv => whnf
  have hk2 : (x.length : Int) ≤ k := by simp only [List.length_map, hw] at *; omega
  refine ⟨Nat, fun i => i ≤ x.length ∧ ((x.length + pre DDevice.sz x i : Nat) : Int) ≤ k, fun i => ⟨[(0, vl (x.map DDevice.e)), (1, vi (k - (x.length + pre DDevice.sz x i : Nat))), (5, vi i)], [], 0⟩, fun i => x.length - i, 0, ⟨Nat.zero_le _, by rw [pre_zero]; omega⟩, ⟨[], rfl, rfl, rfl, ?_, ?_⟩, fun i hi => ?_⟩
  all_goals repeat' (first
    | (with_reducible rfl)
    | (conv => whnf
       first
         | exact trivial
         | (with_reducible rfl)
         | exact (rfl : (0 : Int) = ((0 : Nat) : Int))
         | exact w64_nat arith
         | refine bcase_T (by first | with_reducible rfl | decide) ?_
         | refine bcase_F (by first | with_reducible rfl | decide) ?_
         | refine bcase_dec (fun _ => ?_) (fun _ => ?_)
         | refine bcase_not ?_
         | refine bcase_intro (fun _ => ?_) (fun _ => ?_)
         | refine ⟨(by with_reducible rfl), ?_⟩
         | refine ⟨congrArg vi ?_, ?_⟩
         | refine ⟨congrArg vb ?_, ?_⟩
         | refine ⟨rfl, ?_⟩
         | refine ⟨(by kernel_rfl : drawOK _ = true), ?_⟩
         | refine Or.inl ?_
         | refine ⟨⟨congrArg (T.int _) ?_, rfl⟩, ?_⟩
         | refine ⟨⟨congrArg T.bool ?_, rfl⟩, ?_⟩
         | refine ⟨⟨rfl, Nat.le_of_ble_eq_true rfl⟩, ?_⟩
         | refine ⟨⟨rfl, rfl⟩, ?_⟩
         | refine ⟨⟨rfl, (by decide)⟩, ?_⟩
         | refine ⟨⟨rfl, ?_⟩, ?_⟩
         | refine ⟨Or.inr rfl, ?_⟩
         | refine ⟨Or.inl rfl, ?_⟩
         | refine ⟨⟨⟨rfl, rfl, rfl⟩, ?_⟩, ?_⟩
         | refine ⟨_, _, rfl, row_get _ _ arith, rfl, ?_⟩
         | refine ⟨Or.inr (by repeat (first | exact trivial | refine ⟨rfl, ?_⟩)), ?_⟩
         | refine ⟨(?_ : _ = ([] : List (List T))), ?_⟩
         | refine ⟨_, c_szDevice _ _ (hx.2 _ (List.getElem_mem _)) (by have h1 := hi.2; omega), ?_⟩
         | refine ⟨i + 1, ⟨⟨arith, by rw [pre_succ DDevice.sz x arith]; have h1 := szS_le (by assumption); omega⟩, arith⟩, ⟨[], rfl, rfl, rfl, ?_, ?_⟩⟩
         | fail))
  · rw [pre_zero]; simp only [List.length_map, hw]; omega
  · rw [szS_lt]; have h0 := lt_map (by assumption); have h1 := szS_neg (by assumption) (by have h1 := hi.2; omega); have h2 := pre_succ DDevice.sz x h0; have h3 := pre_le DDevice.sz x (i + 1); simp only [szL]; omega
  · rw [pre_succ DDevice.sz x arith, (szS_le (by assumption)).2]; omega
  · have h0 := ge_map (by assumption); have h1 := pre_all DDevice.sz x h0; have h2 := hi.2; rw [szS_pos] <;> simp only [szL] <;> omega
theorem c_szArchivedRound (x : DArchivedRound) (k : Int) (hx : DArchivedRound.ok x) (hk : 0 ≤ k ∧ k ≤ 1000000000000) : FnAt Tryz.prog 145 [.agg (DArchivedRound.e x), .one (I k)] [.one (.s (I (szS (DArchivedRound.sz x) k)))] := by
  have hk0 := hk.1
  have hk1 := hk.2
  refine fn_of Tryz.func145 rfl (by kernel_rfl) rfl ?_
  all_goals repeat' (first
    | (with_reducible rfl)
    | (conv => whnf
       first
         | exact trivial
         | (with_reducible rfl)
         | exact (rfl : (0 : Int) = ((0 : Nat) : Int))
         | exact w64_nat arith
         | refine bcase_T (by first | with_reducible rfl | decide) ?_
         | refine bcase_F (by first | with_reducible rfl | decide) ?_
         | refine bcase_dec (fun _ => ?_) (fun _ => ?_)
         | refine bcase_not ?_
         | refine bcase_intro (fun _ => ?_) (fun _ => ?_)
         | refine ⟨(by with_reducible rfl), ?_⟩
         | refine ⟨congrArg vi ?_, ?_⟩
         | refine ⟨congrArg vb ?_, ?_⟩
         | refine ⟨rfl, ?_⟩
         | refine ⟨(by kernel_rfl : drawOK _ = true), ?_⟩
         | refine Or.inl ?_
         | refine ⟨⟨congrArg (T.int _) ?_, rfl⟩, ?_⟩
         | refine ⟨⟨congrArg T.bool ?_, rfl⟩, ?_⟩
         | refine ⟨⟨rfl, Nat.le_of_ble_eq_true rfl⟩, ?_⟩
         | refine ⟨⟨rfl, rfl⟩, ?_⟩
         | refine ⟨⟨rfl, (by decide)⟩, ?_⟩
         | refine ⟨⟨rfl, ?_⟩, ?_⟩
         | refine ⟨Or.inr rfl, ?_⟩
         | refine ⟨Or.inl rfl, ?_⟩
         | refine ⟨⟨⟨rfl, rfl, rfl⟩, ?_⟩, ?_⟩
         | refine ⟨_, _, rfl, row_get _ _ arith, rfl, ?_⟩
         | refine ⟨Or.inr (by repeat (first | exact trivial | refine ⟨rfl, ?_⟩)), ?_⟩
         | refine ⟨(?_ : _ = ([] : List (List T))), ?_⟩
         | refine ⟨_, c_szDatabase _ _ (by simp only [DArchivedRound.ok] at hx; first | exact hx | exact hx.1 | exact hx.2 | (obtain ⟨_, _, _⟩ := hx; assumption) | (simp_all; done)) (by first | omega | (have h1 := szS_le (by assumption); omega) | (refine ⟨by omega, ?_⟩; repeat (first | assumption | refine szS_ub ?_ (by decide)))), ?_⟩
         | fail))
  all_goals (simp only [DArchivedRound.sz] <;> first | rfl | (simp (disch := assumption) only [Nat.add_assoc, szS_T, szS_F]; done) | (simp (disch := assumption) only [Nat.add_assoc, szS_T, szS_F]; first | exact (szS_m1 (by assumption)).symm | exact szS_m1 (by assumption)) | (simp only [szS] at *; grind))
theorem c_szArchivedRoundS (x : (List DArchivedRound)) (k : Int) (hx : (okL DArchivedRound.ok) x) (hk : 0 ≤ k ∧ k ≤ 1000000000000) : FnAt Tryz.prog 78 [.one (L DArchivedRound.e x), .one (I k)] [.one (.s (I (szS ((szL DArchivedRound.sz) x) k)))] := by
  have hl := hx.1
  have hw := w64_ok (n := k - (x.length : Int)) (by simp only [maxLen] at hl; omega) (by simp only [maxLen] at hl; omega)
  refine fn_of Tryz.func78 rfl (by kernel_rfl) rfl ?_
  all_goals repeat' (first
    | (with_reducible rfl)
    | (conv => whnf
       first
         | exact trivial
         | (with_reducible rfl)
         | exact (rfl : (0 : Int) = ((0 : Nat) : Int))
         | exact w64_nat arith
         | refine bcase_T (by first | with_reducible rfl | decide) ?_
         | refine bcase_F (by first | with_reducible rfl | decide) ?_
         | refine bcase_dec (fun _ => ?_) (fun _ => ?_)
         | refine bcase_not ?_
         | refine bcase_intro (fun _ => ?_) (fun _ => ?_)
         | refine ⟨(by with_reducible rfl), ?_⟩
         | refine ⟨congrArg vi ?_, ?_⟩
         | refine ⟨congrArg vb ?_, ?_⟩
         | refine ⟨rfl, ?_⟩
         | refine ⟨(by kernel_rfl : drawOK _ = true), ?_⟩
         | refine Or.inl ?_
         | refine ⟨⟨congrArg (T.int _) ?_, rfl⟩, ?_⟩
         | refine ⟨⟨congrArg T.bool ?_, rfl⟩, ?_⟩
         | refine ⟨⟨rfl, Nat.le_of_ble_eq_true rfl⟩, ?_⟩
         | refine ⟨⟨rfl, rfl⟩, ?_⟩
         | refine ⟨⟨rfl, (by decide)⟩, ?_⟩
         | refine ⟨⟨rfl, ?_⟩, ?_⟩
         | refine ⟨Or.inr rfl, ?_⟩
         | refine ⟨Or.inl rfl, ?_⟩
         | refine ⟨⟨⟨rfl, rfl, rfl⟩, ?_⟩, ?_⟩
         | refine ⟨_, _, rfl, row_get _ _ arith, rfl, ?_⟩
         | refine ⟨Or.inr (by repeat (first | exact trivial | refine ⟨rfl, ?_⟩)), ?_⟩
         | refine ⟨(?_ : _ = ([] : List (List T))), ?_⟩
         | fail))
  · rw [szS_lt]; have := szL_len DArchivedRound.sz x; simp only [List.length_map, hw] at *; omega
  conv => whnf
  have hk2 : (x.length : Int) ≤ k := by simp only [List.length_map, hw] at *; omega
  refine ⟨Nat, fun i => i ≤ x.length ∧ ((x.length + pre DArchivedRound.sz x i : Nat) : Int) ≤ k, fun i => ⟨[(0, vl (x.map DArchivedRound.e)), (1, vi (k - (x.length + pre DArchivedRound.sz x i : Nat))), (5, vi i)], [], 0⟩, fun i => x.length - i, 0, ⟨Nat.zero_le _, by rw [pre_zero]; omega⟩, ⟨[], rfl, rfl, rfl, ?_, ?_⟩, fun i hi => ?_⟩
  all_goals repeat' (first
    | (with_reducible rfl)
    | (conv => whnf
       first
         | exact trivial
         | (with_reducible rfl)
         | exact (rfl : (0 : Int) = ((0 : Nat) : Int))
         | exact w64_nat arith
         | refine bcase_T (by first | with_reducible rfl | decide) ?_
         | refine bcase_F (by first | with_reducible rfl | decide) ?_
         | refine bcase_dec (fun _ => ?_) (fun _ => ?_)
         | refine bcase_not ?_
         | refine bcase_intro (fun _ => ?_) (fun _ => ?_)
         | refine ⟨(by with_reducible rfl), ?_⟩
         | refine ⟨congrArg vi ?_, ?_⟩
         | refine ⟨congrArg vb ?_, ?_⟩
         | refine ⟨rfl, ?_⟩
         | refine ⟨(by kernel_rfl : drawOK _ = true), ?_⟩
         | refine Or.inl ?_
         | refine ⟨⟨congrArg (T.int _) ?_, rfl⟩, ?_⟩
         | refine ⟨⟨congrArg T.bool ?_, rfl⟩, ?_⟩
         | refine ⟨⟨rfl, Nat.le_of_ble_eq_true rfl⟩, ?_⟩
         | refine ⟨⟨rfl, rfl⟩, ?_⟩
         | refine ⟨⟨rfl, (by decide)⟩, ?_⟩
         | refine ⟨⟨rfl, ?_⟩, ?_⟩
         | refine ⟨Or.inr rfl, ?_⟩
         | refine ⟨Or.inl rfl, ?_⟩
         | refine ⟨⟨⟨rfl, rfl, rfl⟩, ?_⟩, ?_⟩
         | refine ⟨_, _, rfl, row_get _ _ arith, rfl, ?_⟩
         | refine ⟨Or.inr (by repeat (first | exact trivial | refine ⟨rfl, ?_⟩)), ?_⟩
         | refine ⟨(?_ : _ = ([] : List (List T))), ?_⟩
         | refine ⟨_, c_szArchivedRound _ _ (hx.2 _ (List.getElem_mem _)) (by have h1 := hi.2; omega), ?_⟩
         | refine ⟨i + 1, ⟨⟨arith, by rw [pre_succ DArchivedRound.sz x arith]; have h1 := szS_le (by assumption); omega⟩, arith⟩, ⟨[], rfl, rfl, rfl, ?_, ?_⟩⟩
         | fail))
  · rw [pre_zero]; simp only [List.length_map, hw]; omega
  · rw [szS_lt]; have h0 := lt_map (by assumption); have h1 := szS_neg (by assumption) (by have h1 := hi.2; omega); have h2 := pre_succ DArchivedRound.sz x h0; have h3 := pre_le DArchivedRound.sz x (i + 1); simp only [szL]; omega
  · rw [pre_succ DArchivedRound.sz x arith, (szS_le (by assumption)).2]; omega
  · have h0 := ge_map (by assumption); have h1 := pre_all DArchivedRound.sz x h0; have h2 := hi.2; rw [szS_pos] <;> simp only [szL] <;> omega
theorem c_szArchive (x : DArchive) (k : Int) (hx : DArchive.ok x) (hk : 0 ≤ k ∧ k ≤ 1000000000000) : FnAt Tryz.prog 25 [.agg (DArchive.e x), .one (I k)] [.one (.s (I (szS (DArchive.sz x) k)))] := by
  have hk0 := hk.1
  have hk1 := hk.2
  refine fn_of Tryz.func25 rfl (by kernel_rfl) rfl ?_
  all_goals repeat' (first
    | (with_reducible rfl)
    | (conv => whnf
       first
         | exact trivial
         | (with_reducible rfl)
         | exact (rfl : (0 : Int) = ((0 : Nat) : Int))
         | exact w64_nat arith
         | refine bcase_T (by first | with_reducible rfl | decide) ?_
         | refine bcase_F (by first | with_reducible rfl | decide) ?_
         | refine bcase_dec (fun _ => ?_) (fun _ => ?_)
         | refine bcase_not ?_
         | refine bcase_intro (fun _ => ?_) (fun _ => ?_)
         | refine ⟨(by with_reducible rfl), ?_⟩
         | refine ⟨congrArg vi ?_, ?_⟩
         | refine ⟨congrArg vb ?_, ?_⟩
         | refine ⟨rfl, ?_⟩
         | refine ⟨(by kernel_rfl : drawOK _ = true), ?_⟩
         | refine Or.inl ?_
         | refine ⟨⟨congrArg (T.int _) ?_, rfl⟩, ?_⟩
         | refine ⟨⟨congrArg T.bool ?_, rfl⟩, ?_⟩
         | refine ⟨⟨rfl, Nat.le_of_ble_eq_true rfl⟩, ?_⟩
         | refine ⟨⟨rfl, rfl⟩, ?_⟩
         | refine ⟨⟨rfl, (by decide)⟩, ?_⟩
         | refine ⟨⟨rfl, ?_⟩, ?_⟩
         | refine ⟨Or.inr rfl, ?_⟩
         | refine ⟨Or.inl rfl, ?_⟩
         | refine ⟨⟨⟨rfl, rfl, rfl⟩, ?_⟩, ?_⟩
         | refine ⟨_, _, rfl, row_get _ _ arith, rfl, ?_⟩
         | refine ⟨Or.inr (by repeat (first | exact trivial | refine ⟨rfl, ?_⟩)), ?_⟩
         | refine ⟨(?_ : _ = ([] : List (List T))), ?_⟩
         | refine ⟨_, c_szArchivedRoundS _ _ (by simp only [DArchive.ok] at hx; first | exact hx | exact hx.1 | exact hx.2 | (obtain ⟨_, _, _⟩ := hx; assumption) | (simp_all; done)) (by first | omega | (have h1 := szS_le (by assumption); omega) | (refine ⟨by omega, ?_⟩; repeat (first | assumption | refine szS_ub ?_ (by decide)))), ?_⟩
         | fail))
  all_goals (simp only [DArchive.sz] <;> first | rfl | (simp (disch := assumption) only [Nat.add_assoc, szS_T, szS_F]; done) | (simp (disch := assumption) only [Nat.add_assoc, szS_T, szS_F]; first | exact (szS_m1 (by assumption)).symm | exact szS_m1 (by assumption)) | (simp only [szS] at *; grind))
theorem c_szIntS (x : (List Int)) (k : Int) (hx : (okL okI) x) (hk : 0 ≤ k ∧ k ≤ 1000000000000) : FnAt Tryz.prog 26 [.one (L eI x), .one (I k)] [.one (.s (I (szS (List.length x) k)))] := by
  have hl := hx.1
  have hw := w64_ok (n := k - (x.length : Int)) (by simp only [maxLen] at hl; omega) (by simp only [maxLen] at hl; omega)
  refine fn_of Tryz.func26 rfl (by kernel_rfl) rfl ?_
  all_goals repeat' (first
    | (with_reducible rfl)
    | (conv => whnf
       first
         | exact trivial
         | (with_reducible rfl)
         | exact (rfl : (0 : Int) = ((0 : Nat) : Int))
         | exact w64_nat arith
         | refine bcase_T (by first | with_reducible rfl | decide) ?_
         | refine bcase_F (by first | with_reducible rfl | decide) ?_
         | refine bcase_dec (fun _ => ?_) (fun _ => ?_)
         | refine bcase_not ?_
         | refine bcase_intro (fun _ => ?_) (fun _ => ?_)
         | refine ⟨(by with_reducible rfl), ?_⟩
         | refine ⟨congrArg vi ?_, ?_⟩
         | refine ⟨congrArg vb ?_, ?_⟩
         | refine ⟨rfl, ?_⟩
         | refine ⟨(by kernel_rfl : drawOK _ = true), ?_⟩
         | refine Or.inl ?_
         | refine ⟨⟨congrArg (T.int _) ?_, rfl⟩, ?_⟩
         | refine ⟨⟨congrArg T.bool ?_, rfl⟩, ?_⟩
         | refine ⟨⟨rfl, Nat.le_of_ble_eq_true rfl⟩, ?_⟩
         | refine ⟨⟨rfl, rfl⟩, ?_⟩
         | refine ⟨⟨rfl, (by decide)⟩, ?_⟩
         | refine ⟨⟨rfl, ?_⟩, ?_⟩
         | refine ⟨Or.inr rfl, ?_⟩
         | refine ⟨Or.inl rfl, ?_⟩
         | refine ⟨⟨⟨rfl, rfl, rfl⟩, ?_⟩, ?_⟩
         | refine ⟨_, _, rfl, row_get _ _ arith, rfl, ?_⟩
         | refine ⟨Or.inr (by repeat (first | exact trivial | refine ⟨rfl, ?_⟩)), ?_⟩
         | refine ⟨(?_ : _ = ([] : List (List T))), ?_⟩
         | fail))
  all_goals simp only [List.length_map, hw, szS] at *
  · rw [if_pos (by omega)]
  · rw [if_neg (by omega)]
theorem c_szWorld (x : DWorld) (k : Int) (hx : DWorld.ok x) (hk : 0 ≤ k ∧ k ≤ 1000000000000) : FnAt Tryz.prog 6 [.agg (DWorld.e x), .one (I k)] [.one (.s (I (szS (DWorld.sz x) k)))] := by
  have hk0 := hk.1
  have hk1 := hk.2
  refine fn_of Tryz.func6 rfl (by kernel_rfl) rfl ?_
  all_goals repeat' (first
    | (with_reducible rfl)
    | (conv => whnf
       first
         | exact trivial
         | (with_reducible rfl)
         | exact (rfl : (0 : Int) = ((0 : Nat) : Int))
         | exact w64_nat arith
         | refine bcase_T (by first | with_reducible rfl | decide) ?_
         | refine bcase_F (by first | with_reducible rfl | decide) ?_
         | refine bcase_dec (fun _ => ?_) (fun _ => ?_)
         | refine bcase_not ?_
         | refine bcase_intro (fun _ => ?_) (fun _ => ?_)
         | refine ⟨(by with_reducible rfl), ?_⟩
         | refine ⟨congrArg vi ?_, ?_⟩
         | refine ⟨congrArg vb ?_, ?_⟩
         | refine ⟨rfl, ?_⟩
         | refine ⟨(by kernel_rfl : drawOK _ = true), ?_⟩
         | refine Or.inl ?_
         | refine ⟨⟨congrArg (T.int _) ?_, rfl⟩, ?_⟩
         | refine ⟨⟨congrArg T.bool ?_, rfl⟩, ?_⟩
         | refine ⟨⟨rfl, Nat.le_of_ble_eq_true rfl⟩, ?_⟩
         | refine ⟨⟨rfl, rfl⟩, ?_⟩
         | refine ⟨⟨rfl, (by decide)⟩, ?_⟩
         | refine ⟨⟨rfl, ?_⟩, ?_⟩
         | refine ⟨Or.inr rfl, ?_⟩
         | refine ⟨Or.inl rfl, ?_⟩
         | refine ⟨⟨⟨rfl, rfl, rfl⟩, ?_⟩, ?_⟩
         | refine ⟨_, _, rfl, row_get _ _ arith, rfl, ?_⟩
         | refine ⟨Or.inr (by repeat (first | exact trivial | refine ⟨rfl, ?_⟩)), ?_⟩
         | refine ⟨(?_ : _ = ([] : List (List T))), ?_⟩
         | refine ⟨_, c_szServerS _ _ (by simp only [DWorld.ok] at hx; first | exact hx | exact hx.1 | exact hx.2 | (obtain ⟨_, _, _⟩ := hx; assumption) | (simp_all; done)) (by first | omega | (have h1 := szS_le (by assumption); omega) | (refine ⟨by omega, ?_⟩; repeat (first | assumption | refine szS_ub ?_ (by decide)))), ?_⟩
         | refine ⟨_, c_szDeviceS _ _ (by simp only [DWorld.ok] at hx; first | exact hx | exact hx.1 | exact hx.2 | (obtain ⟨_, _, _⟩ := hx; assumption) | (simp_all; done)) (by first | omega | (have h1 := szS_le (by assumption); omega) | (refine ⟨by omega, ?_⟩; repeat (first | assumption | refine szS_ub ?_ (by decide)))), ?_⟩
         | refine ⟨_, c_szArchive _ _ (by simp only [DWorld.ok] at hx; first | exact hx | exact hx.1 | exact hx.2 | (obtain ⟨_, _, _⟩ := hx; assumption) | (simp_all; done)) (by first | omega | (have h1 := szS_le (by assumption); omega) | (refine ⟨by omega, ?_⟩; repeat (first | assumption | refine szS_ub ?_ (by decide)))), ?_⟩
         | refine ⟨_, c_szIntS _ _ (by simp only [DWorld.ok] at hx; first | exact hx | exact hx.1 | exact hx.2 | (obtain ⟨_, _, _⟩ := hx; assumption) | (simp_all; done)) (by first | omega | (have h1 := szS_le (by assumption); omega) | (refine ⟨by omega, ?_⟩; repeat (first | assumption | refine szS_ub ?_ (by decide)))), ?_⟩
         | fail))
  all_goals (simp only [DWorld.sz] <;> first | rfl | (simp (disch := assumption) only [Nat.add_assoc, szS_T, szS_F]; done) | (simp (disch := assumption) only [Nat.add_assoc, szS_T, szS_F]; first | exact (szS_m1 (by assumption)).symm | exact szS_m1 (by assumption)) | (simp only [szS] at *; grind))
theorem c_toByteS (x : (List UInt8)) (hx : List.length x ≤ 1048576) : FnAt Tryz.prog 225 [.one (L eU x)] [.one (.l 1 (x.map eU))] := by
  have hl : x.length ≤ 1048576 := by first | exact hx | exact Nat.le_trans (szL_len _ _) hx
  refine fn_of Tryz.func225 rfl (by kernel_rfl) rfl ?_
  all_goals repeat' (first
    | (with_reducible rfl)
    | (conv => whnf
       first
         | exact trivial
         | (with_reducible rfl)
         | exact (rfl : (0 : Int) = ((0 : Nat) : Int))
         | exact w64_nat arith
         | refine bcase_T (by first | with_reducible rfl | decide) ?_
         | refine bcase_F (by first | with_reducible rfl | decide) ?_
         | refine bcase_dec (fun _ => ?_) (fun _ => ?_)
         | refine bcase_not ?_
         | refine bcase_intro (fun _ => ?_) (fun _ => ?_)
         | refine ⟨(by with_reducible rfl), ?_⟩
         | refine ⟨congrArg vi ?_, ?_⟩
         | refine ⟨congrArg vb ?_, ?_⟩
         | refine ⟨rfl, ?_⟩
         | refine ⟨(by kernel_rfl : drawOK _ = true), ?_⟩
         | refine Or.inl ?_
         | refine ⟨⟨congrArg (T.int _) ?_, rfl⟩, ?_⟩
         | refine ⟨⟨congrArg T.bool ?_, rfl⟩, ?_⟩
         | refine ⟨⟨rfl, Nat.le_of_ble_eq_true rfl⟩, ?_⟩
         | refine ⟨⟨rfl, rfl⟩, ?_⟩
         | refine ⟨⟨rfl, (by decide)⟩, ?_⟩
         | refine ⟨⟨rfl, ?_⟩, ?_⟩
         | refine ⟨Or.inr rfl, ?_⟩
         | refine ⟨Or.inl rfl, ?_⟩
         | refine ⟨⟨⟨rfl, rfl, rfl⟩, ?_⟩, ?_⟩
         | refine ⟨_, _, rfl, row_get _ _ arith, rfl, ?_⟩
         | refine ⟨Or.inr (by repeat (first | exact trivial | refine ⟨rfl, ?_⟩)), ?_⟩
         | refine ⟨(?_ : _ = ([] : List (List T))), ?_⟩
         | refine ⟨(x.map eU).length, ⟨rfl, rfl⟩, ⟨(by simp only [List.length_map]; show _ * 1 ≤ _; omega), (by simp only [List.length_map]; omega)⟩, ?_⟩
         | fail))
  conv => whnf
  refine ⟨Nat, fun i => i ≤ x.length, fun i => ⟨[(0, vl (x.map eU)), (3, .c (.ref 0)), (4, vi i)], [(0, .row true true 1 (fill eU [U8 0] x i))], 1⟩, fun i => x.length - i, 0, Nat.zero_le _, ⟨[(0, some 0)], rfl, rfl, rfl, ?_, ?_⟩, fun i (hi : i ≤ x.length) => ?_⟩
  all_goals repeat' (first
    | (with_reducible rfl)
    | (conv => whnf
       first
         | exact trivial
         | (with_reducible rfl)
         | exact (rfl : (0 : Int) = ((0 : Nat) : Int))
         | exact w64_nat arith
         | refine bcase_T (by first | with_reducible rfl | decide) ?_
         | refine bcase_F (by first | with_reducible rfl | decide) ?_
         | refine bcase_dec (fun _ => ?_) (fun _ => ?_)
         | refine bcase_not ?_
         | refine bcase_intro (fun _ => ?_) (fun _ => ?_)
         | refine ⟨(by with_reducible rfl), ?_⟩
         | refine ⟨congrArg vi ?_, ?_⟩
         | refine ⟨congrArg vb ?_, ?_⟩
         | refine ⟨rfl, ?_⟩
         | refine ⟨(by kernel_rfl : drawOK _ = true), ?_⟩
         | refine Or.inl ?_
         | refine ⟨⟨congrArg (T.int _) ?_, rfl⟩, ?_⟩
         | refine ⟨⟨congrArg T.bool ?_, rfl⟩, ?_⟩
         | refine ⟨⟨rfl, Nat.le_of_ble_eq_true rfl⟩, ?_⟩
         | refine ⟨⟨rfl, rfl⟩, ?_⟩
         | refine ⟨⟨rfl, (by decide)⟩, ?_⟩
         | refine ⟨⟨rfl, ?_⟩, ?_⟩
         | refine ⟨Or.inr rfl, ?_⟩
         | refine ⟨Or.inl rfl, ?_⟩
         | refine ⟨⟨⟨rfl, rfl, rfl⟩, ?_⟩, ?_⟩
         | refine ⟨_, _, rfl, row_get _ _ arith, rfl, ?_⟩
         | refine ⟨Or.inr (by repeat (first | exact trivial | refine ⟨rfl, ?_⟩)), ?_⟩
         | refine ⟨(?_ : _ = ([] : List (List T))), ?_⟩
         | refine ⟨i, rfl, (by rw [fill_len hi]; first | assumption | (simp only [List.length_map] at *; omega)), ?_⟩
         | refine ⟨_, fill_get arith, ⟨rfl, Nat.le_of_ble_eq_true rfl⟩, ?_⟩
         | refine ⟨i + 1, ⟨arith, arith⟩, ⟨[(0, some 0)], rfl, rfl, rfl, ?_, ?_⟩⟩
         | fail))
  · rw [List.length_map]; exact fill_zero.symm
  · exact fill_set arith
  · exact fill_all arith
theorem c_toByteSS (x : (List (List UInt8))) (hx : (szL List.length) x ≤ 1048576) : FnAt Tryz.prog 205 [.one (L (eL eU) x)] [.one (.l 1 (x.map (eL eU)))] := by
  have hl : x.length ≤ 1048576 := by first | exact hx | exact Nat.le_trans (szL_len _ _) hx
  refine fn_of Tryz.func205 rfl (by kernel_rfl) rfl ?_
  all_goals repeat' (first
    | (with_reducible rfl)
    | (conv => whnf
       first
         | exact trivial
         | (with_reducible rfl)
         | exact (rfl : (0 : Int) = ((0 : Nat) : Int))
         | exact w64_nat arith
         | refine bcase_T (by first | with_reducible rfl | decide) ?_
         | refine bcase_F (by first | with_reducible rfl | decide) ?_
         | refine bcase_dec (fun _ => ?_) (fun _ => ?_)
         | refine bcase_not ?_
         | refine bcase_intro (fun _ => ?_) (fun _ => ?_)
         | refine ⟨(by with_reducible rfl), ?_⟩
         | refine ⟨congrArg vi ?_, ?_⟩
         | refine ⟨congrArg vb ?_, ?_⟩
         | refine ⟨rfl, ?_⟩
         | refine ⟨(by kernel_rfl : drawOK _ = true), ?_⟩
         | refine Or.inl ?_
         | refine ⟨⟨congrArg (T.int _) ?_, rfl⟩, ?_⟩
         | refine ⟨⟨congrArg T.bool ?_, rfl⟩, ?_⟩
         | refine ⟨⟨rfl, Nat.le_of_ble_eq_true rfl⟩, ?_⟩
         | refine ⟨⟨rfl, rfl⟩, ?_⟩
         | refine ⟨⟨rfl, (by decide)⟩, ?_⟩
         | refine ⟨⟨rfl, ?_⟩, ?_⟩
         | refine ⟨Or.inr rfl, ?_⟩
         | refine ⟨Or.inl rfl, ?_⟩
         | refine ⟨⟨⟨rfl, rfl, rfl⟩, ?_⟩, ?_⟩
         | refine ⟨_, _, rfl, row_get _ _ arith, rfl, ?_⟩
         | refine ⟨Or.inr (by repeat (first | exact trivial | refine ⟨rfl, ?_⟩)), ?_⟩
         | refine ⟨(?_ : _ = ([] : List (List T))), ?_⟩
         | refine ⟨(x.map (eL eU)).length, ⟨rfl, rfl⟩, ⟨(by simp only [List.length_map]; show _ * 24 ≤ _; omega), (by simp only [List.length_map]; omega)⟩, ?_⟩
         | fail))
  conv => whnf
  refine ⟨Nat, fun i => i ≤ x.length, fun i => ⟨[(0, vl (x.map (eL eU))), (3, .c (.ref 0)), (4, vi i)], [(0, .row true true 1 (fill (eL eU) [.lst []] x i))], 1⟩, fun i => x.length - i, 0, Nat.zero_le _, ⟨[(0, some 0)], rfl, rfl, rfl, ?_, ?_⟩, fun i (hi : i ≤ x.length) => ?_⟩
  all_goals repeat' (first
    | (with_reducible rfl)
    | (conv => whnf
       first
         | exact trivial
         | (with_reducible rfl)
         | exact (rfl : (0 : Int) = ((0 : Nat) : Int))
         | exact w64_nat arith
         | refine bcase_T (by first | with_reducible rfl | decide) ?_
         | refine bcase_F (by first | with_reducible rfl | decide) ?_
         | refine bcase_dec (fun _ => ?_) (fun _ => ?_)
         | refine bcase_not ?_
         | refine bcase_intro (fun _ => ?_) (fun _ => ?_)
         | refine ⟨(by with_reducible rfl), ?_⟩
         | refine ⟨congrArg vi ?_, ?_⟩
         | refine ⟨congrArg vb ?_, ?_⟩
         | refine ⟨rfl, ?_⟩
         | refine ⟨(by kernel_rfl : drawOK _ = true), ?_⟩
         | refine Or.inl ?_
         | refine ⟨⟨congrArg (T.int _) ?_, rfl⟩, ?_⟩
         | refine ⟨⟨congrArg T.bool ?_, rfl⟩, ?_⟩
         | refine ⟨⟨rfl, Nat.le_of_ble_eq_true rfl⟩, ?_⟩
         | refine ⟨⟨rfl, rfl⟩, ?_⟩
         | refine ⟨⟨rfl, (by decide)⟩, ?_⟩
         | refine ⟨⟨rfl, ?_⟩, ?_⟩
         | refine ⟨Or.inr rfl, ?_⟩
         | refine ⟨Or.inl rfl, ?_⟩
         | refine ⟨⟨⟨rfl, rfl, rfl⟩, ?_⟩, ?_⟩
         | refine ⟨_, _, rfl, row_get _ _ arith, rfl, ?_⟩
         | refine ⟨Or.inr (by repeat (first | exact trivial | refine ⟨rfl, ?_⟩)), ?_⟩
         | refine ⟨(?_ : _ = ([] : List (List T))), ?_⟩
         | refine ⟨_, c_toByteS _ (Nat.le_trans (szL_get _ _ arith) hx), ?_⟩
         | refine ⟨i, rfl, (by rw [fill_len hi]; first | assumption | (simp only [List.length_map] at *; omega)), ?_⟩
         | refine ⟨_, fill_get arith, ⟨rfl, Nat.le_of_ble_eq_true rfl⟩, ?_⟩
         | refine ⟨i + 1, ⟨arith, arith⟩, ⟨[(0, some 0)], rfl, rfl, rfl, ?_, ?_⟩⟩
         | fail))
  · rw [List.length_map]; exact fill_zero.symm
  · exact fill_set arith
  · exact fill_all arith
theorem c_toDatabase (x : DDatabase) (hx : DDatabase.sz x ≤ 1048576) : FnAt Tryz.prog 206 [.agg (DDatabase.e x)] [.agg [.l 1 (x.Rows.map (eL eU))]] := by
  refine fn_of Tryz.func206 rfl (by kernel_rfl) rfl ?_
  all_goals repeat' (first
    | (with_reducible rfl)
    | (conv => whnf
       first
         | exact trivial
         | (with_reducible rfl)
         | exact (rfl : (0 : Int) = ((0 : Nat) : Int))
         | exact w64_nat arith
         | refine bcase_T (by first | with_reducible rfl | decide) ?_
         | refine bcase_F (by first | with_reducible rfl | decide) ?_
         | refine bcase_dec (fun _ => ?_) (fun _ => ?_)
         | refine bcase_not ?_
         | refine bcase_intro (fun _ => ?_) (fun _ => ?_)
         | refine ⟨(by with_reducible rfl), ?_⟩
         | refine ⟨congrArg vi ?_, ?_⟩
         | refine ⟨congrArg vb ?_, ?_⟩
         | refine ⟨rfl, ?_⟩
         | refine ⟨(by kernel_rfl : drawOK _ = true), ?_⟩
         | refine Or.inl ?_
         | refine ⟨⟨congrArg (T.int _) ?_, rfl⟩, ?_⟩
         | refine ⟨⟨congrArg T.bool ?_, rfl⟩, ?_⟩
         | refine ⟨⟨rfl, Nat.le_of_ble_eq_true rfl⟩, ?_⟩
         | refine ⟨⟨rfl, rfl⟩, ?_⟩
         | refine ⟨⟨rfl, (by decide)⟩, ?_⟩
         | refine ⟨⟨rfl, ?_⟩, ?_⟩
         | refine ⟨Or.inr rfl, ?_⟩
         | refine ⟨Or.inl rfl, ?_⟩
         | refine ⟨⟨⟨rfl, rfl, rfl⟩, ?_⟩, ?_⟩
         | refine ⟨_, _, rfl, row_get _ _ arith, rfl, ?_⟩
         | refine ⟨Or.inr (by repeat (first | exact trivial | refine ⟨rfl, ?_⟩)), ?_⟩
         | refine ⟨(?_ : _ = ([] : List (List T))), ?_⟩
         | refine ⟨_, c_toByteSS _ (by simp only [DDatabase.sz] at hx; omega), ?_⟩
         | refine ⟨⟨rfl, Nat.le_of_ble_eq_true rfl⟩, ?_⟩
         | fail))
  all_goals rfl
theorem c_toReceivedShare (x : DReceivedShare) (hx : DReceivedShare.sz x ≤ 1048576) : FnAt Tryz.prog 204 [.agg (DReceivedShare.e x)] [.agg [.s (I x.Client), .l 1 (x.Share.Rows.map (eL eU))]] := by
  refine fn_of Tryz.func204 rfl (by kernel_rfl) rfl ?_
  all_goals repeat' (first
    | (with_reducible rfl)
    | (conv => whnf
       first
         | exact trivial
         | (with_reducible rfl)
         | exact (rfl : (0 : Int) = ((0 : Nat) : Int))
         | exact w64_nat arith
         | refine bcase_T (by first | with_reducible rfl | decide) ?_
         | refine bcase_F (by first | with_reducible rfl | decide) ?_
         | refine bcase_dec (fun _ => ?_) (fun _ => ?_)
         | refine bcase_not ?_
         | refine bcase_intro (fun _ => ?_) (fun _ => ?_)
         | refine ⟨(by with_reducible rfl), ?_⟩
         | refine ⟨congrArg vi ?_, ?_⟩
         | refine ⟨congrArg vb ?_, ?_⟩
         | refine ⟨rfl, ?_⟩
         | refine ⟨(by kernel_rfl : drawOK _ = true), ?_⟩
         | refine Or.inl ?_
         | refine ⟨⟨congrArg (T.int _) ?_, rfl⟩, ?_⟩
         | refine ⟨⟨congrArg T.bool ?_, rfl⟩, ?_⟩
         | refine ⟨⟨rfl, Nat.le_of_ble_eq_true rfl⟩, ?_⟩
         | refine ⟨⟨rfl, rfl⟩, ?_⟩
         | refine ⟨⟨rfl, (by decide)⟩, ?_⟩
         | refine ⟨⟨rfl, ?_⟩, ?_⟩
         | refine ⟨Or.inr rfl, ?_⟩
         | refine ⟨Or.inl rfl, ?_⟩
         | refine ⟨⟨⟨rfl, rfl, rfl⟩, ?_⟩, ?_⟩
         | refine ⟨_, _, rfl, row_get _ _ arith, rfl, ?_⟩
         | refine ⟨Or.inr (by repeat (first | exact trivial | refine ⟨rfl, ?_⟩)), ?_⟩
         | refine ⟨(?_ : _ = ([] : List (List T))), ?_⟩
         | refine ⟨_, c_toDatabase _ (by simp only [DReceivedShare.sz] at hx; omega), ?_⟩
         | refine ⟨⟨rfl, Nat.le_of_ble_eq_true rfl⟩, ?_⟩
         | fail))
  all_goals rfl
theorem c_toReceivedShareS (x : (List DReceivedShare)) (hx : (szL DReceivedShare.sz) x ≤ 1048576) : FnAt Tryz.prog 153 [.one (L DReceivedShare.e x)] [.one (.l 2 (x.map DReceivedShare.e))] := by
  have hl : x.length ≤ 1048576 := by first | exact hx | exact Nat.le_trans (szL_len _ _) hx
  refine fn_of Tryz.func153 rfl (by kernel_rfl) rfl ?_
  all_goals repeat' (first
    | (with_reducible rfl)
    | (conv => whnf
       first
         | exact trivial
         | (with_reducible rfl)
         | exact (rfl : (0 : Int) = ((0 : Nat) : Int))
         | exact w64_nat arith
         | refine bcase_T (by first | with_reducible rfl | decide) ?_
         | refine bcase_F (by first | with_reducible rfl | decide) ?_
         | refine bcase_dec (fun _ => ?_) (fun _ => ?_)
         | refine bcase_not ?_
         | refine bcase_intro (fun _ => ?_) (fun _ => ?_)
         | refine ⟨(by with_reducible rfl), ?_⟩
         | refine ⟨congrArg vi ?_, ?_⟩
         | refine ⟨congrArg vb ?_, ?_⟩
         | refine ⟨rfl, ?_⟩
         | refine ⟨(by kernel_rfl : drawOK _ = true), ?_⟩
         | refine Or.inl ?_
         | refine ⟨⟨congrArg (T.int _) ?_, rfl⟩, ?_⟩
         | refine ⟨⟨congrArg T.bool ?_, rfl⟩, ?_⟩
         | refine ⟨⟨rfl, Nat.le_of_ble_eq_true rfl⟩, ?_⟩
         | refine ⟨⟨rfl, rfl⟩, ?_⟩
         | refine ⟨⟨rfl, (by decide)⟩, ?_⟩
         | refine ⟨⟨rfl, ?_⟩, ?_⟩
         | refine ⟨Or.inr rfl, ?_⟩
         | refine ⟨Or.inl rfl, ?_⟩
         | refine ⟨⟨⟨rfl, rfl, rfl⟩, ?_⟩, ?_⟩
         | refine ⟨_, _, rfl, row_get _ _ arith, rfl, ?_⟩
         | refine ⟨Or.inr (by repeat (first | exact trivial | refine ⟨rfl, ?_⟩)), ?_⟩
         | refine ⟨(?_ : _ = ([] : List (List T))), ?_⟩
         | refine ⟨(x.map DReceivedShare.e).length, ⟨rfl, rfl⟩, ⟨(by simp only [List.length_map]; show _ * 32 ≤ _; omega), (by simp only [List.length_map]; omega)⟩, ?_⟩
         | fail))
  conv => whnf
  refine ⟨Nat, fun i => i ≤ x.length, fun i => ⟨[(0, vl (x.map DReceivedShare.e)), (3, .c (.ref 0)), (4, vi i)], [(0, .row true true 2 (fill DReceivedShare.e [I 0, .lst []] x i))], 1⟩, fun i => x.length - i, 0, Nat.zero_le _, ⟨[(0, some 0)], rfl, rfl, rfl, ?_, ?_⟩, fun i (hi : i ≤ x.length) => ?_⟩
  all_goals repeat' (first
    | (with_reducible rfl)
    | (conv => whnf
       first
         | exact trivial
         | (with_reducible rfl)
         | exact (rfl : (0 : Int) = ((0 : Nat) : Int))
         | exact w64_nat arith
         | refine bcase_T (by first | with_reducible rfl | decide) ?_
         | refine bcase_F (by first | with_reducible rfl | decide) ?_
         | refine bcase_dec (fun _ => ?_) (fun _ => ?_)
         | refine bcase_not ?_
         | refine bcase_intro (fun _ => ?_) (fun _ => ?_)
         | refine ⟨(by with_reducible rfl), ?_⟩
         | refine ⟨congrArg vi ?_, ?_⟩
         | refine ⟨congrArg vb ?_, ?_⟩
         | refine ⟨rfl, ?_⟩
         | refine ⟨(by kernel_rfl : drawOK _ = true), ?_⟩
         | refine Or.inl ?_
         | refine ⟨⟨congrArg (T.int _) ?_, rfl⟩, ?_⟩
         | refine ⟨⟨congrArg T.bool ?_, rfl⟩, ?_⟩
         | refine ⟨⟨rfl, Nat.le_of_ble_eq_true rfl⟩, ?_⟩
         | refine ⟨⟨rfl, rfl⟩, ?_⟩
         | refine ⟨⟨rfl, (by decide)⟩, ?_⟩
         | refine ⟨⟨rfl, ?_⟩, ?_⟩
         | refine ⟨Or.inr rfl, ?_⟩
         | refine ⟨Or.inl rfl, ?_⟩
         | refine ⟨⟨⟨rfl, rfl, rfl⟩, ?_⟩, ?_⟩
         | refine ⟨_, _, rfl, row_get _ _ arith, rfl, ?_⟩
         | refine ⟨Or.inr (by repeat (first | exact trivial | refine ⟨rfl, ?_⟩)), ?_⟩
         | refine ⟨(?_ : _ = ([] : List (List T))), ?_⟩
         | refine ⟨_, c_toReceivedShare _ (Nat.le_trans (szL_get _ _ arith) hx), ?_⟩
         | refine ⟨i, rfl, (by rw [fill_len hi]; first | assumption | (simp only [List.length_map] at *; omega)), ?_⟩
         | refine ⟨_, fill_get arith, ⟨rfl, Nat.le_of_ble_eq_true rfl⟩, ?_⟩
         | refine ⟨i + 1, ⟨arith, arith⟩, ⟨[(0, some 0)], rfl, rfl, rfl, ?_, ?_⟩⟩
         | fail))
  · rw [List.length_map]; exact fill_zero.symm
  · exact fill_set arith
  · exact fill_all arith
theorem c_toServer (x : DServer) (hx : DServer.sz x ≤ 1048576) : FnAt Tryz.prog 85 [.agg (DServer.e x)] [.agg [.s (I x.Id), .s (I x.Rows), .s (I x.Round), .l 2 (x.Received.map DReceivedShare.e), .s (I x.Behavior)]] := by
  refine fn_of Tryz.func85 rfl (by kernel_rfl) rfl ?_
  all_goals repeat' (first
    | (with_reducible rfl)
    | (conv => whnf
       first
         | exact trivial
         | (with_reducible rfl)
         | exact (rfl : (0 : Int) = ((0 : Nat) : Int))
         | exact w64_nat arith
         | refine bcase_T (by first | with_reducible rfl | decide) ?_
         | refine bcase_F (by first | with_reducible rfl | decide) ?_
         | refine bcase_dec (fun _ => ?_) (fun _ => ?_)
         | refine bcase_not ?_
         | refine bcase_intro (fun _ => ?_) (fun _ => ?_)
         | refine ⟨(by with_reducible rfl), ?_⟩
         | refine ⟨congrArg vi ?_, ?_⟩
         | refine ⟨congrArg vb ?_, ?_⟩
         | refine ⟨rfl, ?_⟩
         | refine ⟨(by kernel_rfl : drawOK _ = true), ?_⟩
         | refine Or.inl ?_
         | refine ⟨⟨congrArg (T.int _) ?_, rfl⟩, ?_⟩
         | refine ⟨⟨congrArg T.bool ?_, rfl⟩, ?_⟩
         | refine ⟨⟨rfl, Nat.le_of_ble_eq_true rfl⟩, ?_⟩
         | refine ⟨⟨rfl, rfl⟩, ?_⟩
         | refine ⟨⟨rfl, (by decide)⟩, ?_⟩
         | refine ⟨⟨rfl, ?_⟩, ?_⟩
         | refine ⟨Or.inr rfl, ?_⟩
         | refine ⟨Or.inl rfl, ?_⟩
         | refine ⟨⟨⟨rfl, rfl, rfl⟩, ?_⟩, ?_⟩
         | refine ⟨_, _, rfl, row_get _ _ arith, rfl, ?_⟩
         | refine ⟨Or.inr (by repeat (first | exact trivial | refine ⟨rfl, ?_⟩)), ?_⟩
         | refine ⟨(?_ : _ = ([] : List (List T))), ?_⟩
         | refine ⟨_, c_toReceivedShareS _ (by simp only [DServer.sz] at hx; omega), ?_⟩
         | refine ⟨⟨rfl, Nat.le_of_ble_eq_true rfl⟩, ?_⟩
         | fail))
  all_goals rfl
theorem c_toServerS (x : (List DServer)) (hx : (szL DServer.sz) x ≤ 1048576) : FnAt Tryz.prog 29 [.one (L DServer.e x)] [.one (.l 5 (x.map DServer.e))] := by
  have hl : x.length ≤ 1048576 := by first | exact hx | exact Nat.le_trans (szL_len _ _) hx
  refine fn_of Tryz.func29 rfl (by kernel_rfl) rfl ?_
  all_goals repeat' (first
    | (with_reducible rfl)
    | (conv => whnf
       first
         | exact trivial
         | (with_reducible rfl)
         | exact (rfl : (0 : Int) = ((0 : Nat) : Int))
         | exact w64_nat arith
         | refine bcase_T (by first | with_reducible rfl | decide) ?_
         | refine bcase_F (by first | with_reducible rfl | decide) ?_
         | refine bcase_dec (fun _ => ?_) (fun _ => ?_)
         | refine bcase_not ?_
         | refine bcase_intro (fun _ => ?_) (fun _ => ?_)
         | refine ⟨(by with_reducible rfl), ?_⟩
         | refine ⟨congrArg vi ?_, ?_⟩
         | refine ⟨congrArg vb ?_, ?_⟩
         | refine ⟨rfl, ?_⟩
         | refine ⟨(by kernel_rfl : drawOK _ = true), ?_⟩
         | refine Or.inl ?_
         | refine ⟨⟨congrArg (T.int _) ?_, rfl⟩, ?_⟩
         | refine ⟨⟨congrArg T.bool ?_, rfl⟩, ?_⟩
         | refine ⟨⟨rfl, Nat.le_of_ble_eq_true rfl⟩, ?_⟩
         | refine ⟨⟨rfl, rfl⟩, ?_⟩
         | refine ⟨⟨rfl, (by decide)⟩, ?_⟩
         | refine ⟨⟨rfl, ?_⟩, ?_⟩
         | refine ⟨Or.inr rfl, ?_⟩
         | refine ⟨Or.inl rfl, ?_⟩
         | refine ⟨⟨⟨rfl, rfl, rfl⟩, ?_⟩, ?_⟩
         | refine ⟨_, _, rfl, row_get _ _ arith, rfl, ?_⟩
         | refine ⟨Or.inr (by repeat (first | exact trivial | refine ⟨rfl, ?_⟩)), ?_⟩
         | refine ⟨(?_ : _ = ([] : List (List T))), ?_⟩
         | refine ⟨(x.map DServer.e).length, ⟨rfl, rfl⟩, ⟨(by simp only [List.length_map]; show _ * 56 ≤ _; omega), (by simp only [List.length_map]; omega)⟩, ?_⟩
         | fail))
  conv => whnf
  refine ⟨Nat, fun i => i ≤ x.length, fun i => ⟨[(0, vl (x.map DServer.e)), (3, .c (.ref 0)), (4, vi i)], [(0, .row true true 5 (fill DServer.e [I 0, I 0, I 0, .lst [], I 0] x i))], 1⟩, fun i => x.length - i, 0, Nat.zero_le _, ⟨[(0, some 0)], rfl, rfl, rfl, ?_, ?_⟩, fun i (hi : i ≤ x.length) => ?_⟩
  all_goals repeat' (first
    | (with_reducible rfl)
    | (conv => whnf
       first
         | exact trivial
         | (with_reducible rfl)
         | exact (rfl : (0 : Int) = ((0 : Nat) : Int))
         | exact w64_nat arith
         | refine bcase_T (by first | with_reducible rfl | decide) ?_
         | refine bcase_F (by first | with_reducible rfl | decide) ?_
         | refine bcase_dec (fun _ => ?_) (fun _ => ?_)
         | refine bcase_not ?_
         | refine bcase_intro (fun _ => ?_) (fun _ => ?_)
         | refine ⟨(by with_reducible rfl), ?_⟩
         | refine ⟨congrArg vi ?_, ?_⟩
         | refine ⟨congrArg vb ?_, ?_⟩
         | refine ⟨rfl, ?_⟩
         | refine ⟨(by kernel_rfl : drawOK _ = true), ?_⟩
         | refine Or.inl ?_
         | refine ⟨⟨congrArg (T.int _) ?_, rfl⟩, ?_⟩
         | refine ⟨⟨congrArg T.bool ?_, rfl⟩, ?_⟩
         | refine ⟨⟨rfl, Nat.le_of_ble_eq_true rfl⟩, ?_⟩
         | refine ⟨⟨rfl, rfl⟩, ?_⟩
         | refine ⟨⟨rfl, (by decide)⟩, ?_⟩
         | refine ⟨⟨rfl, ?_⟩, ?_⟩
         | refine ⟨Or.inr rfl, ?_⟩
         | refine ⟨Or.inl rfl, ?_⟩
         | refine ⟨⟨⟨rfl, rfl, rfl⟩, ?_⟩, ?_⟩
         | refine ⟨_, _, rfl, row_get _ _ arith, rfl, ?_⟩
         | refine ⟨Or.inr (by repeat (first | exact trivial | refine ⟨rfl, ?_⟩)), ?_⟩
         | refine ⟨(?_ : _ = ([] : List (List T))), ?_⟩
         | refine ⟨_, c_toServer _ (Nat.le_trans (szL_get _ _ arith) hx), ?_⟩
         | refine ⟨i, rfl, (by rw [fill_len hi]; first | assumption | (simp only [List.length_map] at *; omega)), ?_⟩
         | refine ⟨_, fill_get arith, ⟨rfl, Nat.le_of_ble_eq_true rfl⟩, ?_⟩
         | refine ⟨i + 1, ⟨arith, arith⟩, ⟨[(0, some 0)], rfl, rfl, rfl, ?_, ?_⟩⟩
         | fail))
  · rw [List.length_map]; exact fill_zero.symm
  · exact fill_set arith
  · exact fill_all arith
theorem c_toClient (x : DClient) (hx : DClient.sz x ≤ 1048576) : FnAt Tryz.prog 154 [.agg (DClient.e x)] [.agg [.s (I x.Id), .s (I x.Friend), .s (I x.Key), .s (I x.Seed), .l 1 (x.Submitted.map (eL eU)), .s (I x.Sent), .l 1 (x.Inbox.map (eL eU)), .s (I x.Next)]] := by
  refine fn_of Tryz.func154 rfl (by kernel_rfl) rfl ?_
  all_goals repeat' (first
    | (with_reducible rfl)
    | (conv => whnf
       first
         | exact trivial
         | (with_reducible rfl)
         | exact (rfl : (0 : Int) = ((0 : Nat) : Int))
         | exact w64_nat arith
         | refine bcase_T (by first | with_reducible rfl | decide) ?_
         | refine bcase_F (by first | with_reducible rfl | decide) ?_
         | refine bcase_dec (fun _ => ?_) (fun _ => ?_)
         | refine bcase_not ?_
         | refine bcase_intro (fun _ => ?_) (fun _ => ?_)
         | refine ⟨(by with_reducible rfl), ?_⟩
         | refine ⟨congrArg vi ?_, ?_⟩
         | refine ⟨congrArg vb ?_, ?_⟩
         | refine ⟨rfl, ?_⟩
         | refine ⟨(by kernel_rfl : drawOK _ = true), ?_⟩
         | refine Or.inl ?_
         | refine ⟨⟨congrArg (T.int _) ?_, rfl⟩, ?_⟩
         | refine ⟨⟨congrArg T.bool ?_, rfl⟩, ?_⟩
         | refine ⟨⟨rfl, Nat.le_of_ble_eq_true rfl⟩, ?_⟩
         | refine ⟨⟨rfl, rfl⟩, ?_⟩
         | refine ⟨⟨rfl, (by decide)⟩, ?_⟩
         | refine ⟨⟨rfl, ?_⟩, ?_⟩
         | refine ⟨Or.inr rfl, ?_⟩
         | refine ⟨Or.inl rfl, ?_⟩
         | refine ⟨⟨⟨rfl, rfl, rfl⟩, ?_⟩, ?_⟩
         | refine ⟨_, _, rfl, row_get _ _ arith, rfl, ?_⟩
         | refine ⟨Or.inr (by repeat (first | exact trivial | refine ⟨rfl, ?_⟩)), ?_⟩
         | refine ⟨(?_ : _ = ([] : List (List T))), ?_⟩
         | refine ⟨_, c_toByteSS _ (by simp only [DClient.sz] at hx; omega), ?_⟩
         | refine ⟨_, c_toByteSS _ (by simp only [DClient.sz] at hx; omega), ?_⟩
         | refine ⟨⟨rfl, Nat.le_of_ble_eq_true rfl⟩, ?_⟩
         | fail))
  all_goals rfl
theorem c_toDevice (x : DDevice) (hx : DDevice.sz x ≤ 1048576) : FnAt Tryz.prog 86 [.agg (DDevice.e x)] [.agg [.s (I x.Live.Id), .s (I x.Live.Friend), .s (I x.Live.Key), .s (I x.Live.Seed), .l 1 (x.Live.Submitted.map (eL eU)), .s (I x.Live.Sent), .l 1 (x.Live.Inbox.map (eL eU)), .s (I x.Live.Next), .s (I x.Saved.Id), .s (I x.Saved.Friend), .s (I x.Saved.Key), .s (I x.Saved.Seed), .l 1 (x.Saved.Submitted.map (eL eU)), .s (I x.Saved.Sent), .l 1 (x.Saved.Inbox.map (eL eU)), .s (I x.Saved.Next)]] := by
  refine fn_of Tryz.func86 rfl (by kernel_rfl) rfl ?_
  all_goals repeat' (first
    | (with_reducible rfl)
    | (conv => whnf
       first
         | exact trivial
         | (with_reducible rfl)
         | exact (rfl : (0 : Int) = ((0 : Nat) : Int))
         | exact w64_nat arith
         | refine bcase_T (by first | with_reducible rfl | decide) ?_
         | refine bcase_F (by first | with_reducible rfl | decide) ?_
         | refine bcase_dec (fun _ => ?_) (fun _ => ?_)
         | refine bcase_not ?_
         | refine bcase_intro (fun _ => ?_) (fun _ => ?_)
         | refine ⟨(by with_reducible rfl), ?_⟩
         | refine ⟨congrArg vi ?_, ?_⟩
         | refine ⟨congrArg vb ?_, ?_⟩
         | refine ⟨rfl, ?_⟩
         | refine ⟨(by kernel_rfl : drawOK _ = true), ?_⟩
         | refine Or.inl ?_
         | refine ⟨⟨congrArg (T.int _) ?_, rfl⟩, ?_⟩
         | refine ⟨⟨congrArg T.bool ?_, rfl⟩, ?_⟩
         | refine ⟨⟨rfl, Nat.le_of_ble_eq_true rfl⟩, ?_⟩
         | refine ⟨⟨rfl, rfl⟩, ?_⟩
         | refine ⟨⟨rfl, (by decide)⟩, ?_⟩
         | refine ⟨⟨rfl, ?_⟩, ?_⟩
         | refine ⟨Or.inr rfl, ?_⟩
         | refine ⟨Or.inl rfl, ?_⟩
         | refine ⟨⟨⟨rfl, rfl, rfl⟩, ?_⟩, ?_⟩
         | refine ⟨_, _, rfl, row_get _ _ arith, rfl, ?_⟩
         | refine ⟨Or.inr (by repeat (first | exact trivial | refine ⟨rfl, ?_⟩)), ?_⟩
         | refine ⟨(?_ : _ = ([] : List (List T))), ?_⟩
         | refine ⟨_, c_toClient _ (by simp only [DDevice.sz] at hx; omega), ?_⟩
         | refine ⟨_, c_toClient _ (by simp only [DDevice.sz] at hx; omega), ?_⟩
         | refine ⟨⟨rfl, Nat.le_of_ble_eq_true rfl⟩, ?_⟩
         | fail))
  all_goals rfl
theorem c_toDeviceS (x : (List DDevice)) (hx : (szL DDevice.sz) x ≤ 1048576) : FnAt Tryz.prog 30 [.one (L DDevice.e x)] [.one (.l 16 (x.map DDevice.e))] := by
  have hl : x.length ≤ 1048576 := by first | exact hx | exact Nat.le_trans (szL_len _ _) hx
  refine fn_of Tryz.func30 rfl (by kernel_rfl) rfl ?_
  all_goals repeat' (first
    | (with_reducible rfl)
    | (conv => whnf
       first
         | exact trivial
         | (with_reducible rfl)
         | exact (rfl : (0 : Int) = ((0 : Nat) : Int))
         | exact w64_nat arith
         | refine bcase_T (by first | with_reducible rfl | decide) ?_
         | refine bcase_F (by first | with_reducible rfl | decide) ?_
         | refine bcase_dec (fun _ => ?_) (fun _ => ?_)
         | refine bcase_not ?_
         | refine bcase_intro (fun _ => ?_) (fun _ => ?_)
         | refine ⟨(by with_reducible rfl), ?_⟩
         | refine ⟨congrArg vi ?_, ?_⟩
         | refine ⟨congrArg vb ?_, ?_⟩
         | refine ⟨rfl, ?_⟩
         | refine ⟨(by kernel_rfl : drawOK _ = true), ?_⟩
         | refine Or.inl ?_
         | refine ⟨⟨congrArg (T.int _) ?_, rfl⟩, ?_⟩
         | refine ⟨⟨congrArg T.bool ?_, rfl⟩, ?_⟩
         | refine ⟨⟨rfl, Nat.le_of_ble_eq_true rfl⟩, ?_⟩
         | refine ⟨⟨rfl, rfl⟩, ?_⟩
         | refine ⟨⟨rfl, (by decide)⟩, ?_⟩
         | refine ⟨⟨rfl, ?_⟩, ?_⟩
         | refine ⟨Or.inr rfl, ?_⟩
         | refine ⟨Or.inl rfl, ?_⟩
         | refine ⟨⟨⟨rfl, rfl, rfl⟩, ?_⟩, ?_⟩
         | refine ⟨_, _, rfl, row_get _ _ arith, rfl, ?_⟩
         | refine ⟨Or.inr (by repeat (first | exact trivial | refine ⟨rfl, ?_⟩)), ?_⟩
         | refine ⟨(?_ : _ = ([] : List (List T))), ?_⟩
         | refine ⟨(x.map DDevice.e).length, ⟨rfl, rfl⟩, ⟨(by simp only [List.length_map]; show _ * 192 ≤ _; omega), (by simp only [List.length_map]; omega)⟩, ?_⟩
         | fail))
  conv => whnf
  refine ⟨Nat, fun i => i ≤ x.length, fun i => ⟨[(0, vl (x.map DDevice.e)), (3, .c (.ref 0)), (4, vi i)], [(0, .row true true 16 (fill DDevice.e [I 0, I 0, I 0, I 0, .lst [], I 0, .lst [], I 0, I 0, I 0, I 0, I 0, .lst [], I 0, .lst [], I 0] x i))], 1⟩, fun i => x.length - i, 0, Nat.zero_le _, ⟨[(0, some 0)], rfl, rfl, rfl, ?_, ?_⟩, fun i (hi : i ≤ x.length) => ?_⟩
  all_goals repeat' (first
    | (with_reducible rfl)
    | (conv => whnf
       first
         | exact trivial
         | (with_reducible rfl)
         | exact (rfl : (0 : Int) = ((0 : Nat) : Int))
         | exact w64_nat arith
         | refine bcase_T (by first | with_reducible rfl | decide) ?_
         | refine bcase_F (by first | with_reducible rfl | decide) ?_
         | refine bcase_dec (fun _ => ?_) (fun _ => ?_)
         | refine bcase_not ?_
         | refine bcase_intro (fun _ => ?_) (fun _ => ?_)
         | refine ⟨(by with_reducible rfl), ?_⟩
         | refine ⟨congrArg vi ?_, ?_⟩
         | refine ⟨congrArg vb ?_, ?_⟩
         | refine ⟨rfl, ?_⟩
         | refine ⟨(by kernel_rfl : drawOK _ = true), ?_⟩
         | refine Or.inl ?_
         | refine ⟨⟨congrArg (T.int _) ?_, rfl⟩, ?_⟩
         | refine ⟨⟨congrArg T.bool ?_, rfl⟩, ?_⟩
         | refine ⟨⟨rfl, Nat.le_of_ble_eq_true rfl⟩, ?_⟩
         | refine ⟨⟨rfl, rfl⟩, ?_⟩
         | refine ⟨⟨rfl, (by decide)⟩, ?_⟩
         | refine ⟨⟨rfl, ?_⟩, ?_⟩
         | refine ⟨Or.inr rfl, ?_⟩
         | refine ⟨Or.inl rfl, ?_⟩
         | refine ⟨⟨⟨rfl, rfl, rfl⟩, ?_⟩, ?_⟩
         | refine ⟨_, _, rfl, row_get _ _ arith, rfl, ?_⟩
         | refine ⟨Or.inr (by repeat (first | exact trivial | refine ⟨rfl, ?_⟩)), ?_⟩
         | refine ⟨(?_ : _ = ([] : List (List T))), ?_⟩
         | refine ⟨_, c_toDevice _ (Nat.le_trans (szL_get _ _ arith) hx), ?_⟩
         | refine ⟨i, rfl, (by rw [fill_len hi]; first | assumption | (simp only [List.length_map] at *; omega)), ?_⟩
         | refine ⟨_, fill_get arith, ⟨rfl, Nat.le_of_ble_eq_true rfl⟩, ?_⟩
         | refine ⟨i + 1, ⟨arith, arith⟩, ⟨[(0, some 0)], rfl, rfl, rfl, ?_, ?_⟩⟩
         | fail))
  · rw [List.length_map]; exact fill_zero.symm
  · exact fill_set arith
  · exact fill_all arith
theorem c_toArchivedRound (x : DArchivedRound) (hx : DArchivedRound.sz x ≤ 1048576) : FnAt Tryz.prog 155 [.agg (DArchivedRound.e x)] [.agg [.s (I x.Round), .l 1 (x.Database.Rows.map (eL eU))]] := by
  refine fn_of Tryz.func155 rfl (by kernel_rfl) rfl ?_
  all_goals repeat' (first
    | (with_reducible rfl)
    | (conv => whnf
       first
         | exact trivial
         | (with_reducible rfl)
         | exact (rfl : (0 : Int) = ((0 : Nat) : Int))
         | exact w64_nat arith
         | refine bcase_T (by first | with_reducible rfl | decide) ?_
         | refine bcase_F (by first | with_reducible rfl | decide) ?_
         | refine bcase_dec (fun _ => ?_) (fun _ => ?_)
         | refine bcase_not ?_
         | refine bcase_intro (fun _ => ?_) (fun _ => ?_)
         | refine ⟨(by with_reducible rfl), ?_⟩
         | refine ⟨congrArg vi ?_, ?_⟩
         | refine ⟨congrArg vb ?_, ?_⟩
         | refine ⟨rfl, ?_⟩
         | refine ⟨(by kernel_rfl : drawOK _ = true), ?_⟩
         | refine Or.inl ?_
         | refine ⟨⟨congrArg (T.int _) ?_, rfl⟩, ?_⟩
         | refine ⟨⟨congrArg T.bool ?_, rfl⟩, ?_⟩
         | refine ⟨⟨rfl, Nat.le_of_ble_eq_true rfl⟩, ?_⟩
         | refine ⟨⟨rfl, rfl⟩, ?_⟩
         | refine ⟨⟨rfl, (by decide)⟩, ?_⟩
         | refine ⟨⟨rfl, ?_⟩, ?_⟩
         | refine ⟨Or.inr rfl, ?_⟩
         | refine ⟨Or.inl rfl, ?_⟩
         | refine ⟨⟨⟨rfl, rfl, rfl⟩, ?_⟩, ?_⟩
         | refine ⟨_, _, rfl, row_get _ _ arith, rfl, ?_⟩
         | refine ⟨Or.inr (by repeat (first | exact trivial | refine ⟨rfl, ?_⟩)), ?_⟩
         | refine ⟨(?_ : _ = ([] : List (List T))), ?_⟩
         | refine ⟨_, c_toDatabase _ (by simp only [DArchivedRound.sz] at hx; omega), ?_⟩
         | refine ⟨⟨rfl, Nat.le_of_ble_eq_true rfl⟩, ?_⟩
         | fail))
  all_goals rfl
theorem c_toArchivedRoundS (x : (List DArchivedRound)) (hx : (szL DArchivedRound.sz) x ≤ 1048576) : FnAt Tryz.prog 87 [.one (L DArchivedRound.e x)] [.one (.l 2 (x.map DArchivedRound.e))] := by
  have hl : x.length ≤ 1048576 := by first | exact hx | exact Nat.le_trans (szL_len _ _) hx
  refine fn_of Tryz.func87 rfl (by kernel_rfl) rfl ?_
  all_goals repeat' (first
    | (with_reducible rfl)
    | (conv => whnf
       first
         | exact trivial
         | (with_reducible rfl)
         | exact (rfl : (0 : Int) = ((0 : Nat) : Int))
         | exact w64_nat arith
         | refine bcase_T (by first | with_reducible rfl | decide) ?_
         | refine bcase_F (by first | with_reducible rfl | decide) ?_
         | refine bcase_dec (fun _ => ?_) (fun _ => ?_)
         | refine bcase_not ?_
         | refine bcase_intro (fun _ => ?_) (fun _ => ?_)
         | refine ⟨(by with_reducible rfl), ?_⟩
         | refine ⟨congrArg vi ?_, ?_⟩
         | refine ⟨congrArg vb ?_, ?_⟩
         | refine ⟨rfl, ?_⟩
         | refine ⟨(by kernel_rfl : drawOK _ = true), ?_⟩
         | refine Or.inl ?_
         | refine ⟨⟨congrArg (T.int _) ?_, rfl⟩, ?_⟩
         | refine ⟨⟨congrArg T.bool ?_, rfl⟩, ?_⟩
         | refine ⟨⟨rfl, Nat.le_of_ble_eq_true rfl⟩, ?_⟩
         | refine ⟨⟨rfl, rfl⟩, ?_⟩
         | refine ⟨⟨rfl, (by decide)⟩, ?_⟩
         | refine ⟨⟨rfl, ?_⟩, ?_⟩
         | refine ⟨Or.inr rfl, ?_⟩
         | refine ⟨Or.inl rfl, ?_⟩
         | refine ⟨⟨⟨rfl, rfl, rfl⟩, ?_⟩, ?_⟩
         | refine ⟨_, _, rfl, row_get _ _ arith, rfl, ?_⟩
         | refine ⟨Or.inr (by repeat (first | exact trivial | refine ⟨rfl, ?_⟩)), ?_⟩
         | refine ⟨(?_ : _ = ([] : List (List T))), ?_⟩
         | refine ⟨(x.map DArchivedRound.e).length, ⟨rfl, rfl⟩, ⟨(by simp only [List.length_map]; show _ * 32 ≤ _; omega), (by simp only [List.length_map]; omega)⟩, ?_⟩
         | fail))
  conv => whnf
  refine ⟨Nat, fun i => i ≤ x.length, fun i => ⟨[(0, vl (x.map DArchivedRound.e)), (3, .c (.ref 0)), (4, vi i)], [(0, .row true true 2 (fill DArchivedRound.e [I 0, .lst []] x i))], 1⟩, fun i => x.length - i, 0, Nat.zero_le _, ⟨[(0, some 0)], rfl, rfl, rfl, ?_, ?_⟩, fun i (hi : i ≤ x.length) => ?_⟩
  all_goals repeat' (first
    | (with_reducible rfl)
    | (conv => whnf
       first
         | exact trivial
         | (with_reducible rfl)
         | exact (rfl : (0 : Int) = ((0 : Nat) : Int))
         | exact w64_nat arith
         | refine bcase_T (by first | with_reducible rfl | decide) ?_
         | refine bcase_F (by first | with_reducible rfl | decide) ?_
         | refine bcase_dec (fun _ => ?_) (fun _ => ?_)
         | refine bcase_not ?_
         | refine bcase_intro (fun _ => ?_) (fun _ => ?_)
         | refine ⟨(by with_reducible rfl), ?_⟩
         | refine ⟨congrArg vi ?_, ?_⟩
         | refine ⟨congrArg vb ?_, ?_⟩
         | refine ⟨rfl, ?_⟩
         | refine ⟨(by kernel_rfl : drawOK _ = true), ?_⟩
         | refine Or.inl ?_
         | refine ⟨⟨congrArg (T.int _) ?_, rfl⟩, ?_⟩
         | refine ⟨⟨congrArg T.bool ?_, rfl⟩, ?_⟩
         | refine ⟨⟨rfl, Nat.le_of_ble_eq_true rfl⟩, ?_⟩
         | refine ⟨⟨rfl, rfl⟩, ?_⟩
         | refine ⟨⟨rfl, (by decide)⟩, ?_⟩
         | refine ⟨⟨rfl, ?_⟩, ?_⟩
         | refine ⟨Or.inr rfl, ?_⟩
         | refine ⟨Or.inl rfl, ?_⟩
         | refine ⟨⟨⟨rfl, rfl, rfl⟩, ?_⟩, ?_⟩
         | refine ⟨_, _, rfl, row_get _ _ arith, rfl, ?_⟩
         | refine ⟨Or.inr (by repeat (first | exact trivial | refine ⟨rfl, ?_⟩)), ?_⟩
         | refine ⟨(?_ : _ = ([] : List (List T))), ?_⟩
         | refine ⟨_, c_toArchivedRound _ (Nat.le_trans (szL_get _ _ arith) hx), ?_⟩
         | refine ⟨i, rfl, (by rw [fill_len hi]; first | assumption | (simp only [List.length_map] at *; omega)), ?_⟩
         | refine ⟨_, fill_get arith, ⟨rfl, Nat.le_of_ble_eq_true rfl⟩, ?_⟩
         | refine ⟨i + 1, ⟨arith, arith⟩, ⟨[(0, some 0)], rfl, rfl, rfl, ?_, ?_⟩⟩
         | fail))
  · rw [List.length_map]; exact fill_zero.symm
  · exact fill_set arith
  · exact fill_all arith
theorem c_toArchive (x : DArchive) (hx : DArchive.sz x ≤ 1048576) : FnAt Tryz.prog 31 [.agg (DArchive.e x)] [.agg [.s (I x.Rows), .l 2 (x.Rounds.map DArchivedRound.e)]] := by
  refine fn_of Tryz.func31 rfl (by kernel_rfl) rfl ?_
  all_goals repeat' (first
    | (with_reducible rfl)
    | (conv => whnf
       first
         | exact trivial
         | (with_reducible rfl)
         | exact (rfl : (0 : Int) = ((0 : Nat) : Int))
         | exact w64_nat arith
         | refine bcase_T (by first | with_reducible rfl | decide) ?_
         | refine bcase_F (by first | with_reducible rfl | decide) ?_
         | refine bcase_dec (fun _ => ?_) (fun _ => ?_)
         | refine bcase_not ?_
         | refine bcase_intro (fun _ => ?_) (fun _ => ?_)
         | refine ⟨(by with_reducible rfl), ?_⟩
         | refine ⟨congrArg vi ?_, ?_⟩
         | refine ⟨congrArg vb ?_, ?_⟩
         | refine ⟨rfl, ?_⟩
         | refine ⟨(by kernel_rfl : drawOK _ = true), ?_⟩
         | refine Or.inl ?_
         | refine ⟨⟨congrArg (T.int _) ?_, rfl⟩, ?_⟩
         | refine ⟨⟨congrArg T.bool ?_, rfl⟩, ?_⟩
         | refine ⟨⟨rfl, Nat.le_of_ble_eq_true rfl⟩, ?_⟩
         | refine ⟨⟨rfl, rfl⟩, ?_⟩
         | refine ⟨⟨rfl, (by decide)⟩, ?_⟩
         | refine ⟨⟨rfl, ?_⟩, ?_⟩
         | refine ⟨Or.inr rfl, ?_⟩
         | refine ⟨Or.inl rfl, ?_⟩
         | refine ⟨⟨⟨rfl, rfl, rfl⟩, ?_⟩, ?_⟩
         | refine ⟨_, _, rfl, row_get _ _ arith, rfl, ?_⟩
         | refine ⟨Or.inr (by repeat (first | exact trivial | refine ⟨rfl, ?_⟩)), ?_⟩
         | refine ⟨(?_ : _ = ([] : List (List T))), ?_⟩
         | refine ⟨_, c_toArchivedRoundS _ (by simp only [DArchive.sz] at hx; omega), ?_⟩
         | refine ⟨⟨rfl, Nat.le_of_ble_eq_true rfl⟩, ?_⟩
         | fail))
  all_goals rfl
theorem c_toIntS (x : (List Int)) (hx : List.length x ≤ 1048576) : FnAt Tryz.prog 32 [.one (L eI x)] [.one (.l 1 (x.map eI))] := by
  have hl : x.length ≤ 1048576 := by first | exact hx | exact Nat.le_trans (szL_len _ _) hx
  refine fn_of Tryz.func32 rfl (by kernel_rfl) rfl ?_
  all_goals repeat' (first
    | (with_reducible rfl)
    | (conv => whnf
       first
         | exact trivial
         | (with_reducible rfl)
         | exact (rfl : (0 : Int) = ((0 : Nat) : Int))
         | exact w64_nat arith
         | refine bcase_T (by first | with_reducible rfl | decide) ?_
         | refine bcase_F (by first | with_reducible rfl | decide) ?_
         | refine bcase_dec (fun _ => ?_) (fun _ => ?_)
         | refine bcase_not ?_
         | refine bcase_intro (fun _ => ?_) (fun _ => ?_)
         | refine ⟨(by with_reducible rfl), ?_⟩
         | refine ⟨congrArg vi ?_, ?_⟩
         | refine ⟨congrArg vb ?_, ?_⟩
         | refine ⟨rfl, ?_⟩
         | refine ⟨(by kernel_rfl : drawOK _ = true), ?_⟩
         | refine Or.inl ?_
         | refine ⟨⟨congrArg (T.int _) ?_, rfl⟩, ?_⟩
         | refine ⟨⟨congrArg T.bool ?_, rfl⟩, ?_⟩
         | refine ⟨⟨rfl, Nat.le_of_ble_eq_true rfl⟩, ?_⟩
         | refine ⟨⟨rfl, rfl⟩, ?_⟩
         | refine ⟨⟨rfl, (by decide)⟩, ?_⟩
         | refine ⟨⟨rfl, ?_⟩, ?_⟩
         | refine ⟨Or.inr rfl, ?_⟩
         | refine ⟨Or.inl rfl, ?_⟩
         | refine ⟨⟨⟨rfl, rfl, rfl⟩, ?_⟩, ?_⟩
         | refine ⟨_, _, rfl, row_get _ _ arith, rfl, ?_⟩
         | refine ⟨Or.inr (by repeat (first | exact trivial | refine ⟨rfl, ?_⟩)), ?_⟩
         | refine ⟨(?_ : _ = ([] : List (List T))), ?_⟩
         | refine ⟨(x.map eI).length, ⟨rfl, rfl⟩, ⟨(by simp only [List.length_map]; show _ * 8 ≤ _; omega), (by simp only [List.length_map]; omega)⟩, ?_⟩
         | fail))
  conv => whnf
  refine ⟨Nat, fun i => i ≤ x.length, fun i => ⟨[(0, vl (x.map eI)), (3, .c (.ref 0)), (4, vi i)], [(0, .row true true 1 (fill eI [I 0] x i))], 1⟩, fun i => x.length - i, 0, Nat.zero_le _, ⟨[(0, some 0)], rfl, rfl, rfl, ?_, ?_⟩, fun i (hi : i ≤ x.length) => ?_⟩
  all_goals repeat' (first
    | (with_reducible rfl)
    | (conv => whnf
       first
         | exact trivial
         | (with_reducible rfl)
         | exact (rfl : (0 : Int) = ((0 : Nat) : Int))
         | exact w64_nat arith
         | refine bcase_T (by first | with_reducible rfl | decide) ?_
         | refine bcase_F (by first | with_reducible rfl | decide) ?_
         | refine bcase_dec (fun _ => ?_) (fun _ => ?_)
         | refine bcase_not ?_
         | refine bcase_intro (fun _ => ?_) (fun _ => ?_)
         | refine ⟨(by with_reducible rfl), ?_⟩
         | refine ⟨congrArg vi ?_, ?_⟩
         | refine ⟨congrArg vb ?_, ?_⟩
         | refine ⟨rfl, ?_⟩
         | refine ⟨(by kernel_rfl : drawOK _ = true), ?_⟩
         | refine Or.inl ?_
         | refine ⟨⟨congrArg (T.int _) ?_, rfl⟩, ?_⟩
         | refine ⟨⟨congrArg T.bool ?_, rfl⟩, ?_⟩
         | refine ⟨⟨rfl, Nat.le_of_ble_eq_true rfl⟩, ?_⟩
         | refine ⟨⟨rfl, rfl⟩, ?_⟩
         | refine ⟨⟨rfl, (by decide)⟩, ?_⟩
         | refine ⟨⟨rfl, ?_⟩, ?_⟩
         | refine ⟨Or.inr rfl, ?_⟩
         | refine ⟨Or.inl rfl, ?_⟩
         | refine ⟨⟨⟨rfl, rfl, rfl⟩, ?_⟩, ?_⟩
         | refine ⟨_, _, rfl, row_get _ _ arith, rfl, ?_⟩
         | refine ⟨Or.inr (by repeat (first | exact trivial | refine ⟨rfl, ?_⟩)), ?_⟩
         | refine ⟨(?_ : _ = ([] : List (List T))), ?_⟩
         | refine ⟨i, rfl, (by rw [fill_len hi]; first | assumption | (simp only [List.length_map] at *; omega)), ?_⟩
         | refine ⟨_, fill_get arith, ⟨rfl, Nat.le_of_ble_eq_true rfl⟩, ?_⟩
         | refine ⟨i + 1, ⟨arith, arith⟩, ⟨[(0, some 0)], rfl, rfl, rfl, ?_, ?_⟩⟩
         | fail))
  · rw [List.length_map]; exact fill_zero.symm
  · exact fill_set arith
  · exact fill_all arith
theorem c_toWorld (x : DWorld) (hx : DWorld.sz x ≤ 1048576) : FnAt Tryz.prog 8 [.agg (DWorld.e x)] [.agg [.s (I x.Rows), .l 5 (x.Servers.map DServer.e), .l 16 (x.Devices.map DDevice.e), .s (I x.Archive.Rows), .l 2 (x.Archive.Rounds.map DArchivedRound.e), .s (I x.Master), .s (I x.Seed), .s (I x.Round), .l 1 (x.Replaced.map eI), .s (I x.Cancelled)]] := by
  refine fn_of Tryz.func8 rfl (by kernel_rfl) rfl ?_
  all_goals repeat' (first
    | (with_reducible rfl)
    | (conv => whnf
       first
         | exact trivial
         | (with_reducible rfl)
         | exact (rfl : (0 : Int) = ((0 : Nat) : Int))
         | exact w64_nat arith
         | refine bcase_T (by first | with_reducible rfl | decide) ?_
         | refine bcase_F (by first | with_reducible rfl | decide) ?_
         | refine bcase_dec (fun _ => ?_) (fun _ => ?_)
         | refine bcase_not ?_
         | refine bcase_intro (fun _ => ?_) (fun _ => ?_)
         | refine ⟨(by with_reducible rfl), ?_⟩
         | refine ⟨congrArg vi ?_, ?_⟩
         | refine ⟨congrArg vb ?_, ?_⟩
         | refine ⟨rfl, ?_⟩
         | refine ⟨(by kernel_rfl : drawOK _ = true), ?_⟩
         | refine Or.inl ?_
         | refine ⟨⟨congrArg (T.int _) ?_, rfl⟩, ?_⟩
         | refine ⟨⟨congrArg T.bool ?_, rfl⟩, ?_⟩
         | refine ⟨⟨rfl, Nat.le_of_ble_eq_true rfl⟩, ?_⟩
         | refine ⟨⟨rfl, rfl⟩, ?_⟩
         | refine ⟨⟨rfl, (by decide)⟩, ?_⟩
         | refine ⟨⟨rfl, ?_⟩, ?_⟩
         | refine ⟨Or.inr rfl, ?_⟩
         | refine ⟨Or.inl rfl, ?_⟩
         | refine ⟨⟨⟨rfl, rfl, rfl⟩, ?_⟩, ?_⟩
         | refine ⟨_, _, rfl, row_get _ _ arith, rfl, ?_⟩
         | refine ⟨Or.inr (by repeat (first | exact trivial | refine ⟨rfl, ?_⟩)), ?_⟩
         | refine ⟨(?_ : _ = ([] : List (List T))), ?_⟩
         | refine ⟨_, c_toServerS _ (by simp only [DWorld.sz] at hx; omega), ?_⟩
         | refine ⟨_, c_toDeviceS _ (by simp only [DWorld.sz] at hx; omega), ?_⟩
         | refine ⟨_, c_toArchive _ (by simp only [DWorld.sz] at hx; omega), ?_⟩
         | refine ⟨_, c_toIntS _ (by simp only [DWorld.sz] at hx; omega), ?_⟩
         | refine ⟨⟨rfl, Nat.le_of_ble_eq_true rfl⟩, ?_⟩
         | fail))
  all_goals rfl
theorem c_eqByteS (x : (List UInt8)) (hx : List.length x ≤ 4611686018427387904) : FnAt Tryz.prog 10 [.one (L eU x), .one (L eU x)] [.one (.s (.bool true))] := by
  have hl : x.length ≤ 4611686018427387904 := by first | exact hx | exact Nat.le_trans (szL_len _ _) hx
  refine fn_of Tryz.func10 rfl (by kernel_rfl) rfl ?_
  all_goals repeat' (first
    | (with_reducible rfl)
    | (conv => whnf
       first
         | exact trivial
         | (with_reducible rfl)
         | exact (rfl : (0 : Int) = ((0 : Nat) : Int))
         | exact w64_nat arith
         | refine bcase_T (by first | with_reducible rfl | decide) ?_
         | refine bcase_F (by first | with_reducible rfl | decide) ?_
         | refine bcase_dec (fun _ => ?_) (fun _ => ?_)
         | refine bcase_not ?_
         | refine bcase_intro (fun _ => ?_) (fun _ => ?_)
         | refine ⟨(by with_reducible rfl), ?_⟩
         | refine ⟨congrArg vi ?_, ?_⟩
         | refine ⟨congrArg vb ?_, ?_⟩
         | refine ⟨rfl, ?_⟩
         | refine ⟨(by kernel_rfl : drawOK _ = true), ?_⟩
         | refine Or.inl ?_
         | refine ⟨⟨congrArg (T.int _) ?_, rfl⟩, ?_⟩
         | refine ⟨⟨congrArg T.bool ?_, rfl⟩, ?_⟩
         | refine ⟨⟨rfl, Nat.le_of_ble_eq_true rfl⟩, ?_⟩
         | refine ⟨⟨rfl, rfl⟩, ?_⟩
         | refine ⟨⟨rfl, (by decide)⟩, ?_⟩
         | refine ⟨⟨rfl, ?_⟩, ?_⟩
         | refine ⟨Or.inr rfl, ?_⟩
         | refine ⟨Or.inl rfl, ?_⟩
         | refine ⟨⟨⟨rfl, rfl, rfl⟩, ?_⟩, ?_⟩
         | refine ⟨_, _, rfl, row_get _ _ arith, rfl, ?_⟩
         | refine ⟨Or.inr (by repeat (first | exact trivial | refine ⟨rfl, ?_⟩)), ?_⟩
         | refine ⟨(?_ : _ = ([] : List (List T))), ?_⟩
         | fail))
  conv => whnf
  refine ⟨Nat, fun i => i ≤ x.length, fun i => ⟨[(0, vl (x.map eU)), (1, vl (x.map eU)), (5, vi i)], [], 0⟩, fun i => x.length - i, 0, Nat.zero_le _, ⟨[], rfl, rfl, rfl, ?_, ?_⟩, fun i (hi : i ≤ x.length) => ?_⟩
  all_goals repeat' (first
    | (with_reducible rfl)
    | (conv => whnf
       first
         | exact trivial
         | (with_reducible rfl)
         | exact (rfl : (0 : Int) = ((0 : Nat) : Int))
         | exact w64_nat arith
         | refine bcase_T (by first | with_reducible rfl | decide) ?_
         | refine bcase_F (by first | with_reducible rfl | decide) ?_
         | refine bcase_dec (fun _ => ?_) (fun _ => ?_)
         | refine bcase_not ?_
         | refine bcase_intro (fun _ => ?_) (fun _ => ?_)
         | refine ⟨(by with_reducible rfl), ?_⟩
         | refine ⟨congrArg vi ?_, ?_⟩
         | refine ⟨congrArg vb ?_, ?_⟩
         | refine ⟨rfl, ?_⟩
         | refine ⟨(by kernel_rfl : drawOK _ = true), ?_⟩
         | refine Or.inl ?_
         | refine ⟨⟨congrArg (T.int _) ?_, rfl⟩, ?_⟩
         | refine ⟨⟨congrArg T.bool ?_, rfl⟩, ?_⟩
         | refine ⟨⟨rfl, Nat.le_of_ble_eq_true rfl⟩, ?_⟩
         | refine ⟨⟨rfl, rfl⟩, ?_⟩
         | refine ⟨⟨rfl, (by decide)⟩, ?_⟩
         | refine ⟨⟨rfl, ?_⟩, ?_⟩
         | refine ⟨Or.inr rfl, ?_⟩
         | refine ⟨Or.inl rfl, ?_⟩
         | refine ⟨⟨⟨rfl, rfl, rfl⟩, ?_⟩, ?_⟩
         | refine ⟨_, _, rfl, row_get _ _ arith, rfl, ?_⟩
         | refine ⟨Or.inr (by repeat (first | exact trivial | refine ⟨rfl, ?_⟩)), ?_⟩
         | refine ⟨(?_ : _ = ([] : List (List T))), ?_⟩
         | refine ⟨i + 1, ⟨arith, arith⟩, ⟨[], rfl, rfl, rfl, ?_, ?_⟩⟩
         | fail))
  all_goals simp_all
theorem c_eqByteSS (x : (List (List UInt8))) (hx : (szL List.length) x ≤ 4611686018427387904) : FnAt Tryz.prog 118 [.one (L (eL eU) x), .one (L (eL eU) x)] [.one (.s (.bool true))] := by
  have hl : x.length ≤ 4611686018427387904 := by first | exact hx | exact Nat.le_trans (szL_len _ _) hx
  refine fn_of Tryz.func118 rfl (by kernel_rfl) rfl ?_
  all_goals repeat' (first
    | (with_reducible rfl)
    | (conv => whnf
       first
         | exact trivial
         | (with_reducible rfl)
         | exact (rfl : (0 : Int) = ((0 : Nat) : Int))
         | exact w64_nat arith
         | refine bcase_T (by first | with_reducible rfl | decide) ?_
         | refine bcase_F (by first | with_reducible rfl | decide) ?_
         | refine bcase_dec (fun _ => ?_) (fun _ => ?_)
         | refine bcase_not ?_
         | refine bcase_intro (fun _ => ?_) (fun _ => ?_)
         | refine ⟨(by with_reducible rfl), ?_⟩
         | refine ⟨congrArg vi ?_, ?_⟩
         | refine ⟨congrArg vb ?_, ?_⟩
         | refine ⟨rfl, ?_⟩
         | refine ⟨(by kernel_rfl : drawOK _ = true), ?_⟩
         | refine Or.inl ?_
         | refine ⟨⟨congrArg (T.int _) ?_, rfl⟩, ?_⟩
         | refine ⟨⟨congrArg T.bool ?_, rfl⟩, ?_⟩
         | refine ⟨⟨rfl, Nat.le_of_ble_eq_true rfl⟩, ?_⟩
         | refine ⟨⟨rfl, rfl⟩, ?_⟩
         | refine ⟨⟨rfl, (by decide)⟩, ?_⟩
         | refine ⟨⟨rfl, ?_⟩, ?_⟩
         | refine ⟨Or.inr rfl, ?_⟩
         | refine ⟨Or.inl rfl, ?_⟩
         | refine ⟨⟨⟨rfl, rfl, rfl⟩, ?_⟩, ?_⟩
         | refine ⟨_, _, rfl, row_get _ _ arith, rfl, ?_⟩
         | refine ⟨Or.inr (by repeat (first | exact trivial | refine ⟨rfl, ?_⟩)), ?_⟩
         | refine ⟨(?_ : _ = ([] : List (List T))), ?_⟩
         | fail))
  conv => whnf
  refine ⟨Nat, fun i => i ≤ x.length, fun i => ⟨[(0, vl (x.map (eL eU))), (1, vl (x.map (eL eU))), (5, vi i)], [], 0⟩, fun i => x.length - i, 0, Nat.zero_le _, ⟨[], rfl, rfl, rfl, ?_, ?_⟩, fun i (hi : i ≤ x.length) => ?_⟩
  all_goals repeat' (first
    | (with_reducible rfl)
    | (conv => whnf
       first
         | exact trivial
         | (with_reducible rfl)
         | exact (rfl : (0 : Int) = ((0 : Nat) : Int))
         | exact w64_nat arith
         | refine bcase_T (by first | with_reducible rfl | decide) ?_
         | refine bcase_F (by first | with_reducible rfl | decide) ?_
         | refine bcase_dec (fun _ => ?_) (fun _ => ?_)
         | refine bcase_not ?_
         | refine bcase_intro (fun _ => ?_) (fun _ => ?_)
         | refine ⟨(by with_reducible rfl), ?_⟩
         | refine ⟨congrArg vi ?_, ?_⟩
         | refine ⟨congrArg vb ?_, ?_⟩
         | refine ⟨rfl, ?_⟩
         | refine ⟨(by kernel_rfl : drawOK _ = true), ?_⟩
         | refine Or.inl ?_
         | refine ⟨⟨congrArg (T.int _) ?_, rfl⟩, ?_⟩
         | refine ⟨⟨congrArg T.bool ?_, rfl⟩, ?_⟩
         | refine ⟨⟨rfl, Nat.le_of_ble_eq_true rfl⟩, ?_⟩
         | refine ⟨⟨rfl, rfl⟩, ?_⟩
         | refine ⟨⟨rfl, (by decide)⟩, ?_⟩
         | refine ⟨⟨rfl, ?_⟩, ?_⟩
         | refine ⟨Or.inr rfl, ?_⟩
         | refine ⟨Or.inl rfl, ?_⟩
         | refine ⟨⟨⟨rfl, rfl, rfl⟩, ?_⟩, ?_⟩
         | refine ⟨_, _, rfl, row_get _ _ arith, rfl, ?_⟩
         | refine ⟨Or.inr (by repeat (first | exact trivial | refine ⟨rfl, ?_⟩)), ?_⟩
         | refine ⟨(?_ : _ = ([] : List (List T))), ?_⟩
         | refine ⟨_, c_eqByteS _ (Nat.le_trans (szL_get _ _ arith) hx), ?_⟩
         | refine ⟨i + 1, ⟨arith, arith⟩, ⟨[], rfl, rfl, rfl, ?_, ?_⟩⟩
         | fail))
  all_goals simp_all
theorem c_eqDatabase (x : DDatabase) (hx : DDatabase.sz x ≤ 4611686018427387904) : FnAt Tryz.prog 54 [.agg (DDatabase.e x), .agg (DDatabase.e x)] [.one (.s (.bool true))] := by
  refine fn_of Tryz.func54 rfl (by kernel_rfl) rfl ?_
  all_goals repeat' (first
    | (with_reducible rfl)
    | (conv => whnf
       first
         | exact trivial
         | (with_reducible rfl)
         | exact (rfl : (0 : Int) = ((0 : Nat) : Int))
         | exact w64_nat arith
         | refine bcase_T (by first | with_reducible rfl | decide) ?_
         | refine bcase_F (by first | with_reducible rfl | decide) ?_
         | refine bcase_dec (fun _ => ?_) (fun _ => ?_)
         | refine bcase_not ?_
         | refine bcase_intro (fun _ => ?_) (fun _ => ?_)
         | refine ⟨(by with_reducible rfl), ?_⟩
         | refine ⟨congrArg vi ?_, ?_⟩
         | refine ⟨congrArg vb ?_, ?_⟩
         | refine ⟨rfl, ?_⟩
         | refine ⟨(by kernel_rfl : drawOK _ = true), ?_⟩
         | refine Or.inl ?_
         | refine ⟨⟨congrArg (T.int _) ?_, rfl⟩, ?_⟩
         | refine ⟨⟨congrArg T.bool ?_, rfl⟩, ?_⟩
         | refine ⟨⟨rfl, Nat.le_of_ble_eq_true rfl⟩, ?_⟩
         | refine ⟨⟨rfl, rfl⟩, ?_⟩
         | refine ⟨⟨rfl, (by decide)⟩, ?_⟩
         | refine ⟨⟨rfl, ?_⟩, ?_⟩
         | refine ⟨Or.inr rfl, ?_⟩
         | refine ⟨Or.inl rfl, ?_⟩
         | refine ⟨⟨⟨rfl, rfl, rfl⟩, ?_⟩, ?_⟩
         | refine ⟨_, _, rfl, row_get _ _ arith, rfl, ?_⟩
         | refine ⟨Or.inr (by repeat (first | exact trivial | refine ⟨rfl, ?_⟩)), ?_⟩
         | refine ⟨(?_ : _ = ([] : List (List T))), ?_⟩
         | refine ⟨_, c_eqByteSS _ (by simp only [DDatabase.sz] at hx; omega), ?_⟩
         | fail))
  all_goals simp_all
theorem c_eqReceivedShare (x : DReceivedShare) (hx : DReceivedShare.sz x ≤ 4611686018427387904) : FnAt Tryz.prog 214 [.agg (DReceivedShare.e x), .agg (DReceivedShare.e x)] [.one (.s (.bool true))] := by
  refine fn_of Tryz.func214 rfl (by kernel_rfl) rfl ?_
  all_goals repeat' (first
    | (with_reducible rfl)
    | (conv => whnf
       first
         | exact trivial
         | (with_reducible rfl)
         | exact (rfl : (0 : Int) = ((0 : Nat) : Int))
         | exact w64_nat arith
         | refine bcase_T (by first | with_reducible rfl | decide) ?_
         | refine bcase_F (by first | with_reducible rfl | decide) ?_
         | refine bcase_dec (fun _ => ?_) (fun _ => ?_)
         | refine bcase_not ?_
         | refine bcase_intro (fun _ => ?_) (fun _ => ?_)
         | refine ⟨(by with_reducible rfl), ?_⟩
         | refine ⟨congrArg vi ?_, ?_⟩
         | refine ⟨congrArg vb ?_, ?_⟩
         | refine ⟨rfl, ?_⟩
         | refine ⟨(by kernel_rfl : drawOK _ = true), ?_⟩
         | refine Or.inl ?_
         | refine ⟨⟨congrArg (T.int _) ?_, rfl⟩, ?_⟩
         | refine ⟨⟨congrArg T.bool ?_, rfl⟩, ?_⟩
         | refine ⟨⟨rfl, Nat.le_of_ble_eq_true rfl⟩, ?_⟩
         | refine ⟨⟨rfl, rfl⟩, ?_⟩
         | refine ⟨⟨rfl, (by decide)⟩, ?_⟩
         | refine ⟨⟨rfl, ?_⟩, ?_⟩
         | refine ⟨Or.inr rfl, ?_⟩
         | refine ⟨Or.inl rfl, ?_⟩
         | refine ⟨⟨⟨rfl, rfl, rfl⟩, ?_⟩, ?_⟩
         | refine ⟨_, _, rfl, row_get _ _ arith, rfl, ?_⟩
         | refine ⟨Or.inr (by repeat (first | exact trivial | refine ⟨rfl, ?_⟩)), ?_⟩
         | refine ⟨(?_ : _ = ([] : List (List T))), ?_⟩
         | refine ⟨_, c_eqDatabase _ (by simp only [DReceivedShare.sz] at hx; omega), ?_⟩
         | fail))
  all_goals simp_all
theorem c_eqReceivedShareS (x : (List DReceivedShare)) (hx : (szL DReceivedShare.sz) x ≤ 4611686018427387904) : FnAt Tryz.prog 165 [.one (L DReceivedShare.e x), .one (L DReceivedShare.e x)] [.one (.s (.bool true))] := by
  have hl : x.length ≤ 4611686018427387904 := by first | exact hx | exact Nat.le_trans (szL_len _ _) hx
  refine fn_of Tryz.func165 rfl (by kernel_rfl) rfl ?_
  all_goals repeat' (first
    | (with_reducible rfl)
    | (conv => whnf
       first
         | exact trivial
         | (with_reducible rfl)
         | exact (rfl : (0 : Int) = ((0 : Nat) : Int))
         | exact w64_nat arith
         | refine bcase_T (by first | with_reducible rfl | decide) ?_
         | refine bcase_F (by first | with_reducible rfl | decide) ?_
         | refine bcase_dec (fun _ => ?_) (fun _ => ?_)
         | refine bcase_not ?_
         | refine bcase_intro (fun _ => ?_) (fun _ => ?_)
         | refine ⟨(by with_reducible rfl), ?_⟩
         | refine ⟨congrArg vi ?_, ?_⟩
         | refine ⟨congrArg vb ?_, ?_⟩
         | refine ⟨rfl, ?_⟩
         | refine ⟨(by kernel_rfl : drawOK _ = true), ?_⟩
         | refine Or.inl ?_
         | refine ⟨⟨congrArg (T.int _) ?_, rfl⟩, ?_⟩
         | refine ⟨⟨congrArg T.bool ?_, rfl⟩, ?_⟩
         | refine ⟨⟨rfl, Nat.le_of_ble_eq_true rfl⟩, ?_⟩
         | refine ⟨⟨rfl, rfl⟩, ?_⟩
         | refine ⟨⟨rfl, (by decide)⟩, ?_⟩
         | refine ⟨⟨rfl, ?_⟩, ?_⟩
         | refine ⟨Or.inr rfl, ?_⟩
         | refine ⟨Or.inl rfl, ?_⟩
         | refine ⟨⟨⟨rfl, rfl, rfl⟩, ?_⟩, ?_⟩
         | refine ⟨_, _, rfl, row_get _ _ arith, rfl, ?_⟩
         | refine ⟨Or.inr (by repeat (first | exact trivial | refine ⟨rfl, ?_⟩)), ?_⟩
         | refine ⟨(?_ : _ = ([] : List (List T))), ?_⟩
         | fail))
  conv => whnf
  refine ⟨Nat, fun i => i ≤ x.length, fun i => ⟨[(0, vl (x.map DReceivedShare.e)), (1, vl (x.map DReceivedShare.e)), (5, vi i)], [], 0⟩, fun i => x.length - i, 0, Nat.zero_le _, ⟨[], rfl, rfl, rfl, ?_, ?_⟩, fun i (hi : i ≤ x.length) => ?_⟩
  all_goals repeat' (first
    | (with_reducible rfl)
    | (conv => whnf
       first
         | exact trivial
         | (with_reducible rfl)
         | exact (rfl : (0 : Int) = ((0 : Nat) : Int))
         | exact w64_nat arith
         | refine bcase_T (by first | with_reducible rfl | decide) ?_
         | refine bcase_F (by first | with_reducible rfl | decide) ?_
         | refine bcase_dec (fun _ => ?_) (fun _ => ?_)
         | refine bcase_not ?_
         | refine bcase_intro (fun _ => ?_) (fun _ => ?_)
         | refine ⟨(by with_reducible rfl), ?_⟩
         | refine ⟨congrArg vi ?_, ?_⟩
         | refine ⟨congrArg vb ?_, ?_⟩
         | refine ⟨rfl, ?_⟩
         | refine ⟨(by kernel_rfl : drawOK _ = true), ?_⟩
         | refine Or.inl ?_
         | refine ⟨⟨congrArg (T.int _) ?_, rfl⟩, ?_⟩
         | refine ⟨⟨congrArg T.bool ?_, rfl⟩, ?_⟩
         | refine ⟨⟨rfl, Nat.le_of_ble_eq_true rfl⟩, ?_⟩
         | refine ⟨⟨rfl, rfl⟩, ?_⟩
         | refine ⟨⟨rfl, (by decide)⟩, ?_⟩
         | refine ⟨⟨rfl, ?_⟩, ?_⟩
         | refine ⟨Or.inr rfl, ?_⟩
         | refine ⟨Or.inl rfl, ?_⟩
         | refine ⟨⟨⟨rfl, rfl, rfl⟩, ?_⟩, ?_⟩
         | refine ⟨_, _, rfl, row_get _ _ arith, rfl, ?_⟩
         | refine ⟨Or.inr (by repeat (first | exact trivial | refine ⟨rfl, ?_⟩)), ?_⟩
         | refine ⟨(?_ : _ = ([] : List (List T))), ?_⟩
         | refine ⟨_, c_eqReceivedShare _ (Nat.le_trans (szL_get _ _ arith) hx), ?_⟩
         | refine ⟨i + 1, ⟨arith, arith⟩, ⟨[], rfl, rfl, rfl, ?_, ?_⟩⟩
         | fail))
  all_goals simp_all
theorem c_eqServer (x : DServer) (hx : DServer.sz x ≤ 4611686018427387904) : FnAt Tryz.prog 101 [.agg (DServer.e x), .agg (DServer.e x)] [.one (.s (.bool true))] := by
  refine fn_of Tryz.func101 rfl (by kernel_rfl) rfl ?_
  all_goals repeat' (first
    | (with_reducible rfl)
    | (conv => whnf
       first
         | exact trivial
         | (with_reducible rfl)
         | exact (rfl : (0 : Int) = ((0 : Nat) : Int))
         | exact w64_nat arith
         | refine bcase_T (by first | with_reducible rfl | decide) ?_
         | refine bcase_F (by first | with_reducible rfl | decide) ?_
         | refine bcase_dec (fun _ => ?_) (fun _ => ?_)
         | refine bcase_not ?_
         | refine bcase_intro (fun _ => ?_) (fun _ => ?_)
         | refine ⟨(by with_reducible rfl), ?_⟩
         | refine ⟨congrArg vi ?_, ?_⟩
         | refine ⟨congrArg vb ?_, ?_⟩
         | refine ⟨rfl, ?_⟩
         | refine ⟨(by kernel_rfl : drawOK _ = true), ?_⟩
         | refine Or.inl ?_
         | refine ⟨⟨congrArg (T.int _) ?_, rfl⟩, ?_⟩
         | refine ⟨⟨congrArg T.bool ?_, rfl⟩, ?_⟩
         | refine ⟨⟨rfl, Nat.le_of_ble_eq_true rfl⟩, ?_⟩
         | refine ⟨⟨rfl, rfl⟩, ?_⟩
         | refine ⟨⟨rfl, (by decide)⟩, ?_⟩
         | refine ⟨⟨rfl, ?_⟩, ?_⟩
         | refine ⟨Or.inr rfl, ?_⟩
         | refine ⟨Or.inl rfl, ?_⟩
         | refine ⟨⟨⟨rfl, rfl, rfl⟩, ?_⟩, ?_⟩
         | refine ⟨_, _, rfl, row_get _ _ arith, rfl, ?_⟩
         | refine ⟨Or.inr (by repeat (first | exact trivial | refine ⟨rfl, ?_⟩)), ?_⟩
         | refine ⟨(?_ : _ = ([] : List (List T))), ?_⟩
         | refine ⟨_, c_eqReceivedShareS _ (by simp only [DServer.sz] at hx; omega), ?_⟩
         | fail))
  all_goals simp_all
theorem c_eqServerS (x : (List DServer)) (hx : (szL DServer.sz) x ≤ 4611686018427387904) : FnAt Tryz.prog 40 [.one (L DServer.e x), .one (L DServer.e x)] [.one (.s (.bool true))] := by
  have hl : x.length ≤ 4611686018427387904 := by first | exact hx | exact Nat.le_trans (szL_len _ _) hx
  refine fn_of Tryz.func40 rfl (by kernel_rfl) rfl ?_
  all_goals repeat' (first
    | (with_reducible rfl)
    | (conv => whnf
       first
         | exact trivial
         | (with_reducible rfl)
         | exact (rfl : (0 : Int) = ((0 : Nat) : Int))
         | exact w64_nat arith
         | refine bcase_T (by first | with_reducible rfl | decide) ?_
         | refine bcase_F (by first | with_reducible rfl | decide) ?_
         | refine bcase_dec (fun _ => ?_) (fun _ => ?_)
         | refine bcase_not ?_
         | refine bcase_intro (fun _ => ?_) (fun _ => ?_)
         | refine ⟨(by with_reducible rfl), ?_⟩
         | refine ⟨congrArg vi ?_, ?_⟩
         | refine ⟨congrArg vb ?_, ?_⟩
         | refine ⟨rfl, ?_⟩
         | refine ⟨(by kernel_rfl : drawOK _ = true), ?_⟩
         | refine Or.inl ?_
         | refine ⟨⟨congrArg (T.int _) ?_, rfl⟩, ?_⟩
         | refine ⟨⟨congrArg T.bool ?_, rfl⟩, ?_⟩
         | refine ⟨⟨rfl, Nat.le_of_ble_eq_true rfl⟩, ?_⟩
         | refine ⟨⟨rfl, rfl⟩, ?_⟩
         | refine ⟨⟨rfl, (by decide)⟩, ?_⟩
         | refine ⟨⟨rfl, ?_⟩, ?_⟩
         | refine ⟨Or.inr rfl, ?_⟩
         | refine ⟨Or.inl rfl, ?_⟩
         | refine ⟨⟨⟨rfl, rfl, rfl⟩, ?_⟩, ?_⟩
         | refine ⟨_, _, rfl, row_get _ _ arith, rfl, ?_⟩
         | refine ⟨Or.inr (by repeat (first | exact trivial | refine ⟨rfl, ?_⟩)), ?_⟩
         | refine ⟨(?_ : _ = ([] : List (List T))), ?_⟩
         | fail))
  conv => whnf
  refine ⟨Nat, fun i => i ≤ x.length, fun i => ⟨[(0, vl (x.map DServer.e)), (1, vl (x.map DServer.e)), (5, vi i)], [], 0⟩, fun i => x.length - i, 0, Nat.zero_le _, ⟨[], rfl, rfl, rfl, ?_, ?_⟩, fun i (hi : i ≤ x.length) => ?_⟩
  all_goals repeat' (first
    | (with_reducible rfl)
    | (conv => whnf
       first
         | exact trivial
         | (with_reducible rfl)
         | exact (rfl : (0 : Int) = ((0 : Nat) : Int))
         | exact w64_nat arith
         | refine bcase_T (by first | with_reducible rfl | decide) ?_
         | refine bcase_F (by first | with_reducible rfl | decide) ?_
         | refine bcase_dec (fun _ => ?_) (fun _ => ?_)
         | refine bcase_not ?_
         | refine bcase_intro (fun _ => ?_) (fun _ => ?_)
         | refine ⟨(by with_reducible rfl), ?_⟩
         | refine ⟨congrArg vi ?_, ?_⟩
         | refine ⟨congrArg vb ?_, ?_⟩
         | refine ⟨rfl, ?_⟩
         | refine ⟨(by kernel_rfl : drawOK _ = true), ?_⟩
         | refine Or.inl ?_
         | refine ⟨⟨congrArg (T.int _) ?_, rfl⟩, ?_⟩
         | refine ⟨⟨congrArg T.bool ?_, rfl⟩, ?_⟩
         | refine ⟨⟨rfl, Nat.le_of_ble_eq_true rfl⟩, ?_⟩
         | refine ⟨⟨rfl, rfl⟩, ?_⟩
         | refine ⟨⟨rfl, (by decide)⟩, ?_⟩
         | refine ⟨⟨rfl, ?_⟩, ?_⟩
         | refine ⟨Or.inr rfl, ?_⟩
         | refine ⟨Or.inl rfl, ?_⟩
         | refine ⟨⟨⟨rfl, rfl, rfl⟩, ?_⟩, ?_⟩
         | refine ⟨_, _, rfl, row_get _ _ arith, rfl, ?_⟩
         | refine ⟨Or.inr (by repeat (first | exact trivial | refine ⟨rfl, ?_⟩)), ?_⟩
         | refine ⟨(?_ : _ = ([] : List (List T))), ?_⟩
         | refine ⟨_, c_eqServer _ (Nat.le_trans (szL_get _ _ arith) hx), ?_⟩
         | refine ⟨i + 1, ⟨arith, arith⟩, ⟨[], rfl, rfl, rfl, ?_, ?_⟩⟩
         | fail))
  all_goals simp_all
theorem c_eqClient (x : DClient) (hx : DClient.sz x ≤ 4611686018427387904) : FnAt Tryz.prog 166 [.agg (DClient.e x), .agg (DClient.e x)] [.one (.s (.bool true))] := by
  refine fn_of Tryz.func166 rfl (by kernel_rfl) rfl ?_
  all_goals repeat' (first
    | (with_reducible rfl)
    | (conv => whnf
       first
         | exact trivial
         | (with_reducible rfl)
         | exact (rfl : (0 : Int) = ((0 : Nat) : Int))
         | exact w64_nat arith
         | refine bcase_T (by first | with_reducible rfl | decide) ?_
         | refine bcase_F (by first | with_reducible rfl | decide) ?_
         | refine bcase_dec (fun _ => ?_) (fun _ => ?_)
         | refine bcase_not ?_
         | refine bcase_intro (fun _ => ?_) (fun _ => ?_)
         | refine ⟨(by with_reducible rfl), ?_⟩
         | refine ⟨congrArg vi ?_, ?_⟩
         | refine ⟨congrArg vb ?_, ?_⟩
         | refine ⟨rfl, ?_⟩
         | refine ⟨(by kernel_rfl : drawOK _ = true), ?_⟩
         | refine Or.inl ?_
         | refine ⟨⟨congrArg (T.int _) ?_, rfl⟩, ?_⟩
         | refine ⟨⟨congrArg T.bool ?_, rfl⟩, ?_⟩
         | refine ⟨⟨rfl, Nat.le_of_ble_eq_true rfl⟩, ?_⟩
         | refine ⟨⟨rfl, rfl⟩, ?_⟩
         | refine ⟨⟨rfl, (by decide)⟩, ?_⟩
         | refine ⟨⟨rfl, ?_⟩, ?_⟩
         | refine ⟨Or.inr rfl, ?_⟩
         | refine ⟨Or.inl rfl, ?_⟩
         | refine ⟨⟨⟨rfl, rfl, rfl⟩, ?_⟩, ?_⟩
         | refine ⟨_, _, rfl, row_get _ _ arith, rfl, ?_⟩
         | refine ⟨Or.inr (by repeat (first | exact trivial | refine ⟨rfl, ?_⟩)), ?_⟩
         | refine ⟨(?_ : _ = ([] : List (List T))), ?_⟩
         | refine ⟨_, c_eqByteSS _ (by simp only [DClient.sz] at hx; omega), ?_⟩
         | refine ⟨_, c_eqByteSS _ (by simp only [DClient.sz] at hx; omega), ?_⟩
         | fail))
  all_goals simp_all
theorem c_eqDevice (x : DDevice) (hx : DDevice.sz x ≤ 4611686018427387904) : FnAt Tryz.prog 102 [.agg (DDevice.e x), .agg (DDevice.e x)] [.one (.s (.bool true))] := by
  refine fn_of Tryz.func102 rfl (by kernel_rfl) rfl ?_
  all_goals repeat' (first
    | (with_reducible rfl)
    | (conv => whnf
       first
         | exact trivial
         | (with_reducible rfl)
         | exact (rfl : (0 : Int) = ((0 : Nat) : Int))
         | exact w64_nat arith
         | refine bcase_T (by first | with_reducible rfl | decide) ?_
         | refine bcase_F (by first | with_reducible rfl | decide) ?_
         | refine bcase_dec (fun _ => ?_) (fun _ => ?_)
         | refine bcase_not ?_
         | refine bcase_intro (fun _ => ?_) (fun _ => ?_)
         | refine ⟨(by with_reducible rfl), ?_⟩
         | refine ⟨congrArg vi ?_, ?_⟩
         | refine ⟨congrArg vb ?_, ?_⟩
         | refine ⟨rfl, ?_⟩
         | refine ⟨(by kernel_rfl : drawOK _ = true), ?_⟩
         | refine Or.inl ?_
         | refine ⟨⟨congrArg (T.int _) ?_, rfl⟩, ?_⟩
         | refine ⟨⟨congrArg T.bool ?_, rfl⟩, ?_⟩
         | refine ⟨⟨rfl, Nat.le_of_ble_eq_true rfl⟩, ?_⟩
         | refine ⟨⟨rfl, rfl⟩, ?_⟩
         | refine ⟨⟨rfl, (by decide)⟩, ?_⟩
         | refine ⟨⟨rfl, ?_⟩, ?_⟩
         | refine ⟨Or.inr rfl, ?_⟩
         | refine ⟨Or.inl rfl, ?_⟩
         | refine ⟨⟨⟨rfl, rfl, rfl⟩, ?_⟩, ?_⟩
         | refine ⟨_, _, rfl, row_get _ _ arith, rfl, ?_⟩
         | refine ⟨Or.inr (by repeat (first | exact trivial | refine ⟨rfl, ?_⟩)), ?_⟩
         | refine ⟨(?_ : _ = ([] : List (List T))), ?_⟩
         | refine ⟨_, c_eqClient _ (by simp only [DDevice.sz] at hx; omega), ?_⟩
         | refine ⟨_, c_eqClient _ (by simp only [DDevice.sz] at hx; omega), ?_⟩
         | fail))
  all_goals simp_all
theorem c_eqDeviceS (x : (List DDevice)) (hx : (szL DDevice.sz) x ≤ 4611686018427387904) : FnAt Tryz.prog 41 [.one (L DDevice.e x), .one (L DDevice.e x)] [.one (.s (.bool true))] := by
  have hl : x.length ≤ 4611686018427387904 := by first | exact hx | exact Nat.le_trans (szL_len _ _) hx
  refine fn_of Tryz.func41 rfl (by kernel_rfl) rfl ?_
  all_goals repeat' (first
    | (with_reducible rfl)
    | (conv => whnf
       first
         | exact trivial
         | (with_reducible rfl)
         | exact (rfl : (0 : Int) = ((0 : Nat) : Int))
         | exact w64_nat arith
         | refine bcase_T (by first | with_reducible rfl | decide) ?_
         | refine bcase_F (by first | with_reducible rfl | decide) ?_
         | refine bcase_dec (fun _ => ?_) (fun _ => ?_)
         | refine bcase_not ?_
         | refine bcase_intro (fun _ => ?_) (fun _ => ?_)
         | refine ⟨(by with_reducible rfl), ?_⟩
         | refine ⟨congrArg vi ?_, ?_⟩
         | refine ⟨congrArg vb ?_, ?_⟩
         | refine ⟨rfl, ?_⟩
         | refine ⟨(by kernel_rfl : drawOK _ = true), ?_⟩
         | refine Or.inl ?_
         | refine ⟨⟨congrArg (T.int _) ?_, rfl⟩, ?_⟩
         | refine ⟨⟨congrArg T.bool ?_, rfl⟩, ?_⟩
         | refine ⟨⟨rfl, Nat.le_of_ble_eq_true rfl⟩, ?_⟩
         | refine ⟨⟨rfl, rfl⟩, ?_⟩
         | refine ⟨⟨rfl, (by decide)⟩, ?_⟩
         | refine ⟨⟨rfl, ?_⟩, ?_⟩
         | refine ⟨Or.inr rfl, ?_⟩
         | refine ⟨Or.inl rfl, ?_⟩
         | refine ⟨⟨⟨rfl, rfl, rfl⟩, ?_⟩, ?_⟩
         | refine ⟨_, _, rfl, row_get _ _ arith, rfl, ?_⟩
         | refine ⟨Or.inr (by repeat (first | exact trivial | refine ⟨rfl, ?_⟩)), ?_⟩
         | refine ⟨(?_ : _ = ([] : List (List T))), ?_⟩
         | fail))
  conv => whnf
  refine ⟨Nat, fun i => i ≤ x.length, fun i => ⟨[(0, vl (x.map DDevice.e)), (1, vl (x.map DDevice.e)), (5, vi i)], [], 0⟩, fun i => x.length - i, 0, Nat.zero_le _, ⟨[], rfl, rfl, rfl, ?_, ?_⟩, fun i (hi : i ≤ x.length) => ?_⟩
  all_goals repeat' (first
    | (with_reducible rfl)
    | (conv => whnf
       first
         | exact trivial
         | (with_reducible rfl)
         | exact (rfl : (0 : Int) = ((0 : Nat) : Int))
         | exact w64_nat arith
         | refine bcase_T (by first | with_reducible rfl | decide) ?_
         | refine bcase_F (by first | with_reducible rfl | decide) ?_
         | refine bcase_dec (fun _ => ?_) (fun _ => ?_)
         | refine bcase_not ?_
         | refine bcase_intro (fun _ => ?_) (fun _ => ?_)
         | refine ⟨(by with_reducible rfl), ?_⟩
         | refine ⟨congrArg vi ?_, ?_⟩
         | refine ⟨congrArg vb ?_, ?_⟩
         | refine ⟨rfl, ?_⟩
         | refine ⟨(by kernel_rfl : drawOK _ = true), ?_⟩
         | refine Or.inl ?_
         | refine ⟨⟨congrArg (T.int _) ?_, rfl⟩, ?_⟩
         | refine ⟨⟨congrArg T.bool ?_, rfl⟩, ?_⟩
         | refine ⟨⟨rfl, Nat.le_of_ble_eq_true rfl⟩, ?_⟩
         | refine ⟨⟨rfl, rfl⟩, ?_⟩
         | refine ⟨⟨rfl, (by decide)⟩, ?_⟩
         | refine ⟨⟨rfl, ?_⟩, ?_⟩
         | refine ⟨Or.inr rfl, ?_⟩
         | refine ⟨Or.inl rfl, ?_⟩
         | refine ⟨⟨⟨rfl, rfl, rfl⟩, ?_⟩, ?_⟩
         | refine ⟨_, _, rfl, row_get _ _ arith, rfl, ?_⟩
         | refine ⟨Or.inr (by repeat (first | exact trivial | refine ⟨rfl, ?_⟩)), ?_⟩
         | refine ⟨(?_ : _ = ([] : List (List T))), ?_⟩
         | refine ⟨_, c_eqDevice _ (Nat.le_trans (szL_get _ _ arith) hx), ?_⟩
         | refine ⟨i + 1, ⟨arith, arith⟩, ⟨[], rfl, rfl, rfl, ?_, ?_⟩⟩
         | fail))
  all_goals simp_all
theorem c_eqArchivedRound (x : DArchivedRound) (hx : DArchivedRound.sz x ≤ 4611686018427387904) : FnAt Tryz.prog 167 [.agg (DArchivedRound.e x), .agg (DArchivedRound.e x)] [.one (.s (.bool true))] := by
  refine fn_of Tryz.func167 rfl (by kernel_rfl) rfl ?_
  all_goals repeat' (first
    | (with_reducible rfl)
    | (conv => whnf
       first
         | exact trivial
         | (with_reducible rfl)
         | exact (rfl : (0 : Int) = ((0 : Nat) : Int))
         | exact w64_nat arith
         | refine bcase_T (by first | with_reducible rfl | decide) ?_
         | refine bcase_F (by first | with_reducible rfl | decide) ?_
         | refine bcase_dec (fun _ => ?_) (fun _ => ?_)
         | refine bcase_not ?_
         | refine bcase_intro (fun _ => ?_) (fun _ => ?_)
         | refine ⟨(by with_reducible rfl), ?_⟩
         | refine ⟨congrArg vi ?_, ?_⟩
         | refine ⟨congrArg vb ?_, ?_⟩
         | refine ⟨rfl, ?_⟩
         | refine ⟨(by kernel_rfl : drawOK _ = true), ?_⟩
         | refine Or.inl ?_
         | refine ⟨⟨congrArg (T.int _) ?_, rfl⟩, ?_⟩
         | refine ⟨⟨congrArg T.bool ?_, rfl⟩, ?_⟩
         | refine ⟨⟨rfl, Nat.le_of_ble_eq_true rfl⟩, ?_⟩
         | refine ⟨⟨rfl, rfl⟩, ?_⟩
         | refine ⟨⟨rfl, (by decide)⟩, ?_⟩
         | refine ⟨⟨rfl, ?_⟩, ?_⟩
         | refine ⟨Or.inr rfl, ?_⟩
         | refine ⟨Or.inl rfl, ?_⟩
         | refine ⟨⟨⟨rfl, rfl, rfl⟩, ?_⟩, ?_⟩
         | refine ⟨_, _, rfl, row_get _ _ arith, rfl, ?_⟩
         | refine ⟨Or.inr (by repeat (first | exact trivial | refine ⟨rfl, ?_⟩)), ?_⟩
         | refine ⟨(?_ : _ = ([] : List (List T))), ?_⟩
         | refine ⟨_, c_eqDatabase _ (by simp only [DArchivedRound.sz] at hx; omega), ?_⟩
         | fail))
  all_goals simp_all
theorem c_eqArchivedRoundS (x : (List DArchivedRound)) (hx : (szL DArchivedRound.sz) x ≤ 4611686018427387904) : FnAt Tryz.prog 103 [.one (L DArchivedRound.e x), .one (L DArchivedRound.e x)] [.one (.s (.bool true))] := by
  have hl : x.length ≤ 4611686018427387904 := by first | exact hx | exact Nat.le_trans (szL_len _ _) hx
  refine fn_of Tryz.func103 rfl (by kernel_rfl) rfl ?_
  all_goals repeat' (first
    | (with_reducible rfl)
    | (conv => whnf
       first
         | exact trivial
         | (with_reducible rfl)
         | exact (rfl : (0 : Int) = ((0 : Nat) : Int))
         | exact w64_nat arith
         | refine bcase_T (by first | with_reducible rfl | decide) ?_
         | refine bcase_F (by first | with_reducible rfl | decide) ?_
         | refine bcase_dec (fun _ => ?_) (fun _ => ?_)
         | refine bcase_not ?_
         | refine bcase_intro (fun _ => ?_) (fun _ => ?_)
         | refine ⟨(by with_reducible rfl), ?_⟩
         | refine ⟨congrArg vi ?_, ?_⟩
         | refine ⟨congrArg vb ?_, ?_⟩
         | refine ⟨rfl, ?_⟩
         | refine ⟨(by kernel_rfl : drawOK _ = true), ?_⟩
         | refine Or.inl ?_
         | refine ⟨⟨congrArg (T.int _) ?_, rfl⟩, ?_⟩
         | refine ⟨⟨congrArg T.bool ?_, rfl⟩, ?_⟩
         | refine ⟨⟨rfl, Nat.le_of_ble_eq_true rfl⟩, ?_⟩
         | refine ⟨⟨rfl, rfl⟩, ?_⟩
         | refine ⟨⟨rfl, (by decide)⟩, ?_⟩
         | refine ⟨⟨rfl, ?_⟩, ?_⟩
         | refine ⟨Or.inr rfl, ?_⟩
         | refine ⟨Or.inl rfl, ?_⟩
         | refine ⟨⟨⟨rfl, rfl, rfl⟩, ?_⟩, ?_⟩
         | refine ⟨_, _, rfl, row_get _ _ arith, rfl, ?_⟩
         | refine ⟨Or.inr (by repeat (first | exact trivial | refine ⟨rfl, ?_⟩)), ?_⟩
         | refine ⟨(?_ : _ = ([] : List (List T))), ?_⟩
         | fail))
  conv => whnf
  refine ⟨Nat, fun i => i ≤ x.length, fun i => ⟨[(0, vl (x.map DArchivedRound.e)), (1, vl (x.map DArchivedRound.e)), (5, vi i)], [], 0⟩, fun i => x.length - i, 0, Nat.zero_le _, ⟨[], rfl, rfl, rfl, ?_, ?_⟩, fun i (hi : i ≤ x.length) => ?_⟩
  all_goals repeat' (first
    | (with_reducible rfl)
    | (conv => whnf
       first
         | exact trivial
         | (with_reducible rfl)
         | exact (rfl : (0 : Int) = ((0 : Nat) : Int))
         | exact w64_nat arith
         | refine bcase_T (by first | with_reducible rfl | decide) ?_
         | refine bcase_F (by first | with_reducible rfl | decide) ?_
         | refine bcase_dec (fun _ => ?_) (fun _ => ?_)
         | refine bcase_not ?_
         | refine bcase_intro (fun _ => ?_) (fun _ => ?_)
         | refine ⟨(by with_reducible rfl), ?_⟩
         | refine ⟨congrArg vi ?_, ?_⟩
         | refine ⟨congrArg vb ?_, ?_⟩
         | refine ⟨rfl, ?_⟩
         | refine ⟨(by kernel_rfl : drawOK _ = true), ?_⟩
         | refine Or.inl ?_
         | refine ⟨⟨congrArg (T.int _) ?_, rfl⟩, ?_⟩
         | refine ⟨⟨congrArg T.bool ?_, rfl⟩, ?_⟩
         | refine ⟨⟨rfl, Nat.le_of_ble_eq_true rfl⟩, ?_⟩
         | refine ⟨⟨rfl, rfl⟩, ?_⟩
         | refine ⟨⟨rfl, (by decide)⟩, ?_⟩
         | refine ⟨⟨rfl, ?_⟩, ?_⟩
         | refine ⟨Or.inr rfl, ?_⟩
         | refine ⟨Or.inl rfl, ?_⟩
         | refine ⟨⟨⟨rfl, rfl, rfl⟩, ?_⟩, ?_⟩
         | refine ⟨_, _, rfl, row_get _ _ arith, rfl, ?_⟩
         | refine ⟨Or.inr (by repeat (first | exact trivial | refine ⟨rfl, ?_⟩)), ?_⟩
         | refine ⟨(?_ : _ = ([] : List (List T))), ?_⟩
         | refine ⟨_, c_eqArchivedRound _ (Nat.le_trans (szL_get _ _ arith) hx), ?_⟩
         | refine ⟨i + 1, ⟨arith, arith⟩, ⟨[], rfl, rfl, rfl, ?_, ?_⟩⟩
         | fail))
  all_goals simp_all
theorem c_eqArchive (x : DArchive) (hx : DArchive.sz x ≤ 4611686018427387904) : FnAt Tryz.prog 42 [.agg (DArchive.e x), .agg (DArchive.e x)] [.one (.s (.bool true))] := by
  refine fn_of Tryz.func42 rfl (by kernel_rfl) rfl ?_
  all_goals repeat' (first
    | (with_reducible rfl)
    | (conv => whnf
       first
         | exact trivial
         | (with_reducible rfl)
         | exact (rfl : (0 : Int) = ((0 : Nat) : Int))
         | exact w64_nat arith
         | refine bcase_T (by first | with_reducible rfl | decide) ?_
         | refine bcase_F (by first | with_reducible rfl | decide) ?_
         | refine bcase_dec (fun _ => ?_) (fun _ => ?_)
         | refine bcase_not ?_
         | refine bcase_intro (fun _ => ?_) (fun _ => ?_)
         | refine ⟨(by with_reducible rfl), ?_⟩
         | refine ⟨congrArg vi ?_, ?_⟩
         | refine ⟨congrArg vb ?_, ?_⟩
         | refine ⟨rfl, ?_⟩
         | refine ⟨(by kernel_rfl : drawOK _ = true), ?_⟩
         | refine Or.inl ?_
         | refine ⟨⟨congrArg (T.int _) ?_, rfl⟩, ?_⟩
         | refine ⟨⟨congrArg T.bool ?_, rfl⟩, ?_⟩
         | refine ⟨⟨rfl, Nat.le_of_ble_eq_true rfl⟩, ?_⟩
         | refine ⟨⟨rfl, rfl⟩, ?_⟩
         | refine ⟨⟨rfl, (by decide)⟩, ?_⟩
         | refine ⟨⟨rfl, ?_⟩, ?_⟩
         | refine ⟨Or.inr rfl, ?_⟩
         | refine ⟨Or.inl rfl, ?_⟩
         | refine ⟨⟨⟨rfl, rfl, rfl⟩, ?_⟩, ?_⟩
         | refine ⟨_, _, rfl, row_get _ _ arith, rfl, ?_⟩
         | refine ⟨Or.inr (by repeat (first | exact trivial | refine ⟨rfl, ?_⟩)), ?_⟩
         | refine ⟨(?_ : _ = ([] : List (List T))), ?_⟩
         | refine ⟨_, c_eqArchivedRoundS _ (by simp only [DArchive.sz] at hx; omega), ?_⟩
         | fail))
  all_goals simp_all
theorem c_eqIntS (x : (List Int)) (hx : List.length x ≤ 4611686018427387904) : FnAt Tryz.prog 43 [.one (L eI x), .one (L eI x)] [.one (.s (.bool true))] := by
  have hl : x.length ≤ 4611686018427387904 := by first | exact hx | exact Nat.le_trans (szL_len _ _) hx
  refine fn_of Tryz.func43 rfl (by kernel_rfl) rfl ?_
  all_goals repeat' (first
    | (with_reducible rfl)
    | (conv => whnf
       first
         | exact trivial
         | (with_reducible rfl)
         | exact (rfl : (0 : Int) = ((0 : Nat) : Int))
         | exact w64_nat arith
         | refine bcase_T (by first | with_reducible rfl | decide) ?_
         | refine bcase_F (by first | with_reducible rfl | decide) ?_
         | refine bcase_dec (fun _ => ?_) (fun _ => ?_)
         | refine bcase_not ?_
         | refine bcase_intro (fun _ => ?_) (fun _ => ?_)
         | refine ⟨(by with_reducible rfl), ?_⟩
         | refine ⟨congrArg vi ?_, ?_⟩
         | refine ⟨congrArg vb ?_, ?_⟩
         | refine ⟨rfl, ?_⟩
         | refine ⟨(by kernel_rfl : drawOK _ = true), ?_⟩
         | refine Or.inl ?_
         | refine ⟨⟨congrArg (T.int _) ?_, rfl⟩, ?_⟩
         | refine ⟨⟨congrArg T.bool ?_, rfl⟩, ?_⟩
         | refine ⟨⟨rfl, Nat.le_of_ble_eq_true rfl⟩, ?_⟩
         | refine ⟨⟨rfl, rfl⟩, ?_⟩
         | refine ⟨⟨rfl, (by decide)⟩, ?_⟩
         | refine ⟨⟨rfl, ?_⟩, ?_⟩
         | refine ⟨Or.inr rfl, ?_⟩
         | refine ⟨Or.inl rfl, ?_⟩
         | refine ⟨⟨⟨rfl, rfl, rfl⟩, ?_⟩, ?_⟩
         | refine ⟨_, _, rfl, row_get _ _ arith, rfl, ?_⟩
         | refine ⟨Or.inr (by repeat (first | exact trivial | refine ⟨rfl, ?_⟩)), ?_⟩
         | refine ⟨(?_ : _ = ([] : List (List T))), ?_⟩
         | fail))
  conv => whnf
  refine ⟨Nat, fun i => i ≤ x.length, fun i => ⟨[(0, vl (x.map eI)), (1, vl (x.map eI)), (5, vi i)], [], 0⟩, fun i => x.length - i, 0, Nat.zero_le _, ⟨[], rfl, rfl, rfl, ?_, ?_⟩, fun i (hi : i ≤ x.length) => ?_⟩
  all_goals repeat' (first
    | (with_reducible rfl)
    | (conv => whnf
       first
         | exact trivial
         | (with_reducible rfl)
         | exact (rfl : (0 : Int) = ((0 : Nat) : Int))
         | exact w64_nat arith
         | refine bcase_T (by first | with_reducible rfl | decide) ?_
         | refine bcase_F (by first | with_reducible rfl | decide) ?_
         | refine bcase_dec (fun _ => ?_) (fun _ => ?_)
         | refine bcase_not ?_
         | refine bcase_intro (fun _ => ?_) (fun _ => ?_)
         | refine ⟨(by with_reducible rfl), ?_⟩
         | refine ⟨congrArg vi ?_, ?_⟩
         | refine ⟨congrArg vb ?_, ?_⟩
         | refine ⟨rfl, ?_⟩
         | refine ⟨(by kernel_rfl : drawOK _ = true), ?_⟩
         | refine Or.inl ?_
         | refine ⟨⟨congrArg (T.int _) ?_, rfl⟩, ?_⟩
         | refine ⟨⟨congrArg T.bool ?_, rfl⟩, ?_⟩
         | refine ⟨⟨rfl, Nat.le_of_ble_eq_true rfl⟩, ?_⟩
         | refine ⟨⟨rfl, rfl⟩, ?_⟩
         | refine ⟨⟨rfl, (by decide)⟩, ?_⟩
         | refine ⟨⟨rfl, ?_⟩, ?_⟩
         | refine ⟨Or.inr rfl, ?_⟩
         | refine ⟨Or.inl rfl, ?_⟩
         | refine ⟨⟨⟨rfl, rfl, rfl⟩, ?_⟩, ?_⟩
         | refine ⟨_, _, rfl, row_get _ _ arith, rfl, ?_⟩
         | refine ⟨Or.inr (by repeat (first | exact trivial | refine ⟨rfl, ?_⟩)), ?_⟩
         | refine ⟨(?_ : _ = ([] : List (List T))), ?_⟩
         | refine ⟨i + 1, ⟨arith, arith⟩, ⟨[], rfl, rfl, rfl, ?_, ?_⟩⟩
         | fail))
  all_goals simp_all
theorem c_eqWorld (x : DWorld) (hx : DWorld.sz x ≤ 4611686018427387904) : FnAt Tryz.prog 11 [.agg (DWorld.e x), .agg (DWorld.e x)] [.one (.s (.bool true))] := by
  refine fn_of Tryz.func11 rfl (by kernel_rfl) rfl ?_
  all_goals repeat' (first
    | (with_reducible rfl)
    | (conv => whnf
       first
         | exact trivial
         | (with_reducible rfl)
         | exact (rfl : (0 : Int) = ((0 : Nat) : Int))
         | exact w64_nat arith
         | refine bcase_T (by first | with_reducible rfl | decide) ?_
         | refine bcase_F (by first | with_reducible rfl | decide) ?_
         | refine bcase_dec (fun _ => ?_) (fun _ => ?_)
         | refine bcase_not ?_
         | refine bcase_intro (fun _ => ?_) (fun _ => ?_)
         | refine ⟨(by with_reducible rfl), ?_⟩
         | refine ⟨congrArg vi ?_, ?_⟩
         | refine ⟨congrArg vb ?_, ?_⟩
         | refine ⟨rfl, ?_⟩
         | refine ⟨(by kernel_rfl : drawOK _ = true), ?_⟩
         | refine Or.inl ?_
         | refine ⟨⟨congrArg (T.int _) ?_, rfl⟩, ?_⟩
         | refine ⟨⟨congrArg T.bool ?_, rfl⟩, ?_⟩
         | refine ⟨⟨rfl, Nat.le_of_ble_eq_true rfl⟩, ?_⟩
         | refine ⟨⟨rfl, rfl⟩, ?_⟩
         | refine ⟨⟨rfl, (by decide)⟩, ?_⟩
         | refine ⟨⟨rfl, ?_⟩, ?_⟩
         | refine ⟨Or.inr rfl, ?_⟩
         | refine ⟨Or.inl rfl, ?_⟩
         | refine ⟨⟨⟨rfl, rfl, rfl⟩, ?_⟩, ?_⟩
         | refine ⟨_, _, rfl, row_get _ _ arith, rfl, ?_⟩
         | refine ⟨Or.inr (by repeat (first | exact trivial | refine ⟨rfl, ?_⟩)), ?_⟩
         | refine ⟨(?_ : _ = ([] : List (List T))), ?_⟩
         | refine ⟨_, c_eqServerS _ (by simp only [DWorld.sz] at hx; omega), ?_⟩
         | refine ⟨_, c_eqDeviceS _ (by simp only [DWorld.sz] at hx; omega), ?_⟩
         | refine ⟨_, c_eqArchive _ (by simp only [DWorld.sz] at hx; omega), ?_⟩
         | refine ⟨_, c_eqIntS _ (by simp only [DWorld.sz] at hx; omega), ?_⟩
         | fail))
  all_goals simp_all
theorem c_eqDatabaseS (x : (List DDatabase)) (hx : (szL DDatabase.sz) x ≤ 4611686018427387904) : FnAt Tryz.prog 17 [.one (L DDatabase.e x), .one (L DDatabase.e x)] [.one (.s (.bool true))] := by
  have hl : x.length ≤ 4611686018427387904 := by first | exact hx | exact Nat.le_trans (szL_len _ _) hx
  refine fn_of Tryz.func17 rfl (by kernel_rfl) rfl ?_
  all_goals repeat' (first
    | (with_reducible rfl)
    | (conv => whnf
       first
         | exact trivial
         | (with_reducible rfl)
         | exact (rfl : (0 : Int) = ((0 : Nat) : Int))
         | exact w64_nat arith
         | refine bcase_T (by first | with_reducible rfl | decide) ?_
         | refine bcase_F (by first | with_reducible rfl | decide) ?_
         | refine bcase_dec (fun _ => ?_) (fun _ => ?_)
         | refine bcase_not ?_
         | refine bcase_intro (fun _ => ?_) (fun _ => ?_)
         | refine ⟨(by with_reducible rfl), ?_⟩
         | refine ⟨congrArg vi ?_, ?_⟩
         | refine ⟨congrArg vb ?_, ?_⟩
         | refine ⟨rfl, ?_⟩
         | refine ⟨(by kernel_rfl : drawOK _ = true), ?_⟩
         | refine Or.inl ?_
         | refine ⟨⟨congrArg (T.int _) ?_, rfl⟩, ?_⟩
         | refine ⟨⟨congrArg T.bool ?_, rfl⟩, ?_⟩
         | refine ⟨⟨rfl, Nat.le_of_ble_eq_true rfl⟩, ?_⟩
         | refine ⟨⟨rfl, rfl⟩, ?_⟩
         | refine ⟨⟨rfl, (by decide)⟩, ?_⟩
         | refine ⟨⟨rfl, ?_⟩, ?_⟩
         | refine ⟨Or.inr rfl, ?_⟩
         | refine ⟨Or.inl rfl, ?_⟩
         | refine ⟨⟨⟨rfl, rfl, rfl⟩, ?_⟩, ?_⟩
         | refine ⟨_, _, rfl, row_get _ _ arith, rfl, ?_⟩
         | refine ⟨Or.inr (by repeat (first | exact trivial | refine ⟨rfl, ?_⟩)), ?_⟩
         | refine ⟨(?_ : _ = ([] : List (List T))), ?_⟩
         | fail))
  conv => whnf
  refine ⟨Nat, fun i => i ≤ x.length, fun i => ⟨[(0, vl (x.map DDatabase.e)), (1, vl (x.map DDatabase.e)), (5, vi i)], [], 0⟩, fun i => x.length - i, 0, Nat.zero_le _, ⟨[], rfl, rfl, rfl, ?_, ?_⟩, fun i (hi : i ≤ x.length) => ?_⟩
  all_goals repeat' (first
    | (with_reducible rfl)
    | (conv => whnf
       first
         | exact trivial
         | (with_reducible rfl)
         | exact (rfl : (0 : Int) = ((0 : Nat) : Int))
         | exact w64_nat arith
         | refine bcase_T (by first | with_reducible rfl | decide) ?_
         | refine bcase_F (by first | with_reducible rfl | decide) ?_
         | refine bcase_dec (fun _ => ?_) (fun _ => ?_)
         | refine bcase_not ?_
         | refine bcase_intro (fun _ => ?_) (fun _ => ?_)
         | refine ⟨(by with_reducible rfl), ?_⟩
         | refine ⟨congrArg vi ?_, ?_⟩
         | refine ⟨congrArg vb ?_, ?_⟩
         | refine ⟨rfl, ?_⟩
         | refine ⟨(by kernel_rfl : drawOK _ = true), ?_⟩
         | refine Or.inl ?_
         | refine ⟨⟨congrArg (T.int _) ?_, rfl⟩, ?_⟩
         | refine ⟨⟨congrArg T.bool ?_, rfl⟩, ?_⟩
         | refine ⟨⟨rfl, Nat.le_of_ble_eq_true rfl⟩, ?_⟩
         | refine ⟨⟨rfl, rfl⟩, ?_⟩
         | refine ⟨⟨rfl, (by decide)⟩, ?_⟩
         | refine ⟨⟨rfl, ?_⟩, ?_⟩
         | refine ⟨Or.inr rfl, ?_⟩
         | refine ⟨Or.inl rfl, ?_⟩
         | refine ⟨⟨⟨rfl, rfl, rfl⟩, ?_⟩, ?_⟩
         | refine ⟨_, _, rfl, row_get _ _ arith, rfl, ?_⟩
         | refine ⟨Or.inr (by repeat (first | exact trivial | refine ⟨rfl, ?_⟩)), ?_⟩
         | refine ⟨(?_ : _ = ([] : List (List T))), ?_⟩
         | refine ⟨_, c_eqDatabase _ (Nat.le_trans (szL_get _ _ arith) hx), ?_⟩
         | refine ⟨i + 1, ⟨arith, arith⟩, ⟨[], rfl, rfl, rfl, ?_, ?_⟩⟩
         | fail))
  all_goals simp_all
end Go.Proofs.YtdbgmncapignoaaGreat
