/-
  Contracts of the statements' own helpers, written by a program of ours by type.
  Conditions: none.
-/
import Derived.Test.YtdbgmncapignoaaGreatFnZ
namespace Go.Proofs.YtdbgmncapignoaaGreat
set_option maxHeartbeats 4000000
set_option maxRecDepth 20000
open Go.Vm Go.RowKit
attribute [local irreducible] FnAt MutAt InAt JAt CurAt

theorem c_heldByteS (x : (List UInt8)) (k : Int) (hx : List.length x ≤ 4611686018427387904) (hk : 0 ≤ k ∧ k + cntRows (x.map eU) ≤ 4611686018427387904) : FnAt Tryz.prog 14 [.one (.lst (mkRows (x.map eU) k)), .one (I k)] [.one (.s (I (k + cntRows (x.map eU))))] := by
  have hl : x.length ≤ 4611686018427387904 := by first | exact hx | exact Nat.le_trans (szL_len _ _) hx
  refine fn_of Tryz.func14 rfl (by kernel_rfl) rfl ?_
  all_goals repeat' (first
    | (with_reducible rfl)
    | (conv => whnf
       first
         | exact trivial
         | (with_reducible rfl)
         | exact (rfl : (0 : Int) = ((0 : Nat) : Int))
         | exact w64_nat arith
         | refine bcase_T (by first | with_reducible rfl | decide) ?_
         | refine bcase_F (by first | with_reducible rfl | decide) ?_
         | refine bcase_dec (fun _ => ?_) (fun _ => ?_)
         | refine bcase_not ?_
         | refine bcase_intro (fun _ => ?_) (fun _ => ?_)
         | refine ⟨(by with_reducible rfl), ?_⟩
         | refine ⟨congrArg vi ?_, ?_⟩
         | refine ⟨congrArg vb ?_, ?_⟩
         | refine ⟨rfl, ?_⟩
         | refine ⟨(by kernel_rfl : drawOK _ = true), ?_⟩
         | refine Or.inl ?_
         | refine ⟨⟨congrArg (T.int _) ?_, rfl⟩, ?_⟩
         | refine ⟨⟨congrArg T.bool ?_, rfl⟩, ?_⟩
         | refine ⟨⟨rfl, Nat.le_of_ble_eq_true rfl⟩, ?_⟩
         | refine ⟨⟨rfl, rfl⟩, ?_⟩
         | refine ⟨⟨rfl, (by decide)⟩, ?_⟩
         | refine ⟨⟨rfl, ?_⟩, ?_⟩
         | refine ⟨Or.inr rfl, ?_⟩
         | refine ⟨Or.inl rfl, ?_⟩
         | refine ⟨⟨⟨rfl, rfl, rfl⟩, ?_⟩, ?_⟩
         | refine ⟨_, _, rfl, row_get _ _ arith, rfl, ?_⟩
         | refine ⟨Or.inr (by repeat (first | exact trivial | refine ⟨rfl, ?_⟩)), ?_⟩
         | refine ⟨(?_ : _ = ([] : List (List T))), ?_⟩
         | fail))
  conv => whnf
  refine ⟨Nat, fun i => i ≤ x.length, fun i => ⟨[(0, vl (mkRows (x.map eU) k)), (1, vi (k + cntAt (x.map eU) i)), (5, vi i)], [], 0⟩, fun i => x.length - i, 0, Nat.zero_le _, ⟨[], rfl, rfl, rfl, ?_, ?_⟩, fun i (hi : i ≤ x.length) => ?_⟩
  all_goals repeat' (first
    | (with_reducible rfl)
    | (conv => whnf
       first
         | refine ⟨i, _, rfl, mkRows_getm (lt_mkr (by assumption)), rfl, ?_⟩
         | refine bcase_F (by have h0 := lt_mkr (by assumption); have h1 := cntAt_succ (x.map eU) (i := i) (by rw [List.length_map]; exact h0); have h2 := cntAt_le (x.map eU) (i + 1); rw [map_get] at h1; simp only [eU, cntCells, cntT, Nat.add_zero] at h1; first | (refine bne_eq_false_iff_eq.2 ?_; first | rfl | (simp (disch := omega) only [w64_ok, cntT]; first | done | omega)) | (rw [decide_eq_false_iff_not]; simp (disch := omega) only [w64_ok, cntT]; omega) | (rw [decide_eq_false_iff_not]; omega)) ?_
         | refine ⟨i + 1, ⟨arith, arith⟩, ⟨[], rfl, rfl, rfl, ?_, ?_⟩⟩
         | refine ⟨congrArg (T.int _) ?_, ?_⟩
         | exact trivial
         | (with_reducible rfl)
         | exact (rfl : (0 : Int) = ((0 : Nat) : Int))
         | exact w64_nat arith
         | refine bcase_T (by first | with_reducible rfl | decide) ?_
         | refine bcase_F (by first | with_reducible rfl | decide) ?_
         | refine bcase_dec (fun _ => ?_) (fun _ => ?_)
         | refine bcase_not ?_
         | refine bcase_intro (fun _ => ?_) (fun _ => ?_)
         | refine ⟨(by with_reducible rfl), ?_⟩
         | refine ⟨congrArg vi ?_, ?_⟩
         | refine ⟨congrArg vb ?_, ?_⟩
         | refine ⟨rfl, ?_⟩
         | refine ⟨(by kernel_rfl : drawOK _ = true), ?_⟩
         | refine Or.inl ?_
         | refine ⟨⟨congrArg (T.int _) ?_, rfl⟩, ?_⟩
         | refine ⟨⟨congrArg T.bool ?_, rfl⟩, ?_⟩
         | refine ⟨⟨rfl, Nat.le_of_ble_eq_true rfl⟩, ?_⟩
         | refine ⟨⟨rfl, rfl⟩, ?_⟩
         | refine ⟨⟨rfl, (by decide)⟩, ?_⟩
         | refine ⟨⟨rfl, ?_⟩, ?_⟩
         | refine ⟨Or.inr rfl, ?_⟩
         | refine ⟨Or.inl rfl, ?_⟩
         | refine ⟨⟨⟨rfl, rfl, rfl⟩, ?_⟩, ?_⟩
         | refine ⟨_, _, rfl, row_get _ _ arith, rfl, ?_⟩
         | refine ⟨Or.inr (by repeat (first | exact trivial | refine ⟨rfl, ?_⟩)), ?_⟩
         | refine ⟨(?_ : _ = ([] : List (List T))), ?_⟩
         | fail))
  · rw [cntAt_zero]; omega
  all_goals first
    | (have h0 := lt_mkr (by assumption); have h1 := cntAt_succ (x.map eU) (i := i) (by rw [List.length_map]; exact h0); have h2 := cntAt_le (x.map eU) (i + 1); rw [map_get] at h1; simp only [eU, cntCells, cntT, Nat.add_zero] at h1; rw [h1]; (try simp only [cntT]); (try simp (disch := omega) only [w64_ok]); omega)
    | (have h0 := ge_mkr (by assumption); rw [cntAt_all _ (by rw [List.length_map]; exact h0)])
theorem c_heldByteSS (x : (List (List UInt8))) (k : Int) (hx : (szL List.length) x ≤ 4611686018427387904) (hk : 0 ≤ k ∧ k + cntRows (x.map (eL eU)) ≤ 4611686018427387904) : FnAt Tryz.prog 56 [.one (.lst (mkRows (x.map (eL eU)) k)), .one (I k)] [.one (.s (I (k + cntRows (x.map (eL eU)))))] := by
  have hl : x.length ≤ 4611686018427387904 := by first | exact hx | exact Nat.le_trans (szL_len _ _) hx
  refine fn_of Tryz.func56 rfl (by kernel_rfl) rfl ?_
  all_goals repeat' (first
    | (with_reducible rfl)
    | (conv => whnf
       first
         | exact trivial
         | (with_reducible rfl)
         | exact (rfl : (0 : Int) = ((0 : Nat) : Int))
         | exact w64_nat arith
         | refine bcase_T (by first | with_reducible rfl | decide) ?_
         | refine bcase_F (by first | with_reducible rfl | decide) ?_
         | refine bcase_dec (fun _ => ?_) (fun _ => ?_)
         | refine bcase_not ?_
         | refine bcase_intro (fun _ => ?_) (fun _ => ?_)
         | refine ⟨(by with_reducible rfl), ?_⟩
         | refine ⟨congrArg vi ?_, ?_⟩
         | refine ⟨congrArg vb ?_, ?_⟩
         | refine ⟨rfl, ?_⟩
         | refine ⟨(by kernel_rfl : drawOK _ = true), ?_⟩
         | refine Or.inl ?_
         | refine ⟨⟨congrArg (T.int _) ?_, rfl⟩, ?_⟩
         | refine ⟨⟨congrArg T.bool ?_, rfl⟩, ?_⟩
         | refine ⟨⟨rfl, Nat.le_of_ble_eq_true rfl⟩, ?_⟩
         | refine ⟨⟨rfl, rfl⟩, ?_⟩
         | refine ⟨⟨rfl, (by decide)⟩, ?_⟩
         | refine ⟨⟨rfl, ?_⟩, ?_⟩
         | refine ⟨Or.inr rfl, ?_⟩
         | refine ⟨Or.inl rfl, ?_⟩
         | refine ⟨⟨⟨rfl, rfl, rfl⟩, ?_⟩, ?_⟩
         | refine ⟨_, _, rfl, row_get _ _ arith, rfl, ?_⟩
         | refine ⟨Or.inr (by repeat (first | exact trivial | refine ⟨rfl, ?_⟩)), ?_⟩
         | refine ⟨(?_ : _ = ([] : List (List T))), ?_⟩
         | fail))
  conv => whnf
  refine ⟨Nat, fun i => i ≤ x.length, fun i => ⟨[(0, vl (mkRows (x.map (eL eU)) k)), (1, vi (k + cntAt (x.map (eL eU)) i)), (5, vi i)], [], 0⟩, fun i => x.length - i, 0, Nat.zero_le _, ⟨[], rfl, rfl, rfl, ?_, ?_⟩, fun i (hi : i ≤ x.length) => ?_⟩
  all_goals repeat' (first
    | (with_reducible rfl)
    | (conv => whnf
       first
         | refine ⟨i, _, rfl, mkRows_getm (lt_mkr (by assumption)), rfl, ?_⟩
         | refine bcase_F (by have h0 := lt_mkr (by assumption); have h1 := cntAt_succ (x.map (eL eU)) (i := i) (by rw [List.length_map]; exact h0); have h2 := cntAt_le (x.map (eL eU)) (i + 1); rw [map_get] at h1; simp only [eL, cntCells, cntT, Nat.add_zero] at h1; first | (refine bne_eq_false_iff_eq.2 ?_; first | rfl | (simp (disch := omega) only [w64_ok, cntT]; first | done | omega)) | (rw [decide_eq_false_iff_not]; simp (disch := omega) only [w64_ok, cntT]; omega) | (rw [decide_eq_false_iff_not]; omega)) ?_
         | refine ⟨_, held_cast (c_heldByteS _ _ (by have h0 := lt_mkr (by assumption); exact (Nat.le_trans (szL_get _ _ h0) hx)) (by have h0 := lt_mkr (by assumption); have h1 := cntAt_succ (x.map (eL eU)) (i := i) (by rw [List.length_map]; exact h0); have h2 := cntAt_le (x.map (eL eU)) (i + 1); rw [map_get] at h1; simp only [eL, cntCells, cntT, Nat.add_zero] at h1; (try simp only [cntT]); (try simp (disch := omega) only [w64_ok]); omega)) (by first | rfl | (have h0 := lt_mkr (by assumption); have h1 := cntAt_succ (x.map (eL eU)) (i := i) (by rw [List.length_map]; exact h0); have h2 := cntAt_le (x.map (eL eU)) (i + 1); rw [map_get] at h1; simp only [eL, cntCells, cntT, Nat.add_zero] at h1; (try simp only [cntT]); (try simp (disch := omega) only [w64_ok]); omega)), ?_⟩
         | refine ⟨i + 1, ⟨arith, arith⟩, ⟨[], rfl, rfl, rfl, ?_, ?_⟩⟩
         | refine ⟨congrArg (T.int _) ?_, ?_⟩
         | exact trivial
         | (with_reducible rfl)
         | exact (rfl : (0 : Int) = ((0 : Nat) : Int))
         | exact w64_nat arith
         | refine bcase_T (by first | with_reducible rfl | decide) ?_
         | refine bcase_F (by first | with_reducible rfl | decide) ?_
         | refine bcase_dec (fun _ => ?_) (fun _ => ?_)
         | refine bcase_not ?_
         | refine bcase_intro (fun _ => ?_) (fun _ => ?_)
         | refine ⟨(by with_reducible rfl), ?_⟩
         | refine ⟨congrArg vi ?_, ?_⟩
         | refine ⟨congrArg vb ?_, ?_⟩
         | refine ⟨rfl, ?_⟩
         | refine ⟨(by kernel_rfl : drawOK _ = true), ?_⟩
         | refine Or.inl ?_
         | refine ⟨⟨congrArg (T.int _) ?_, rfl⟩, ?_⟩
         | refine ⟨⟨congrArg T.bool ?_, rfl⟩, ?_⟩
         | refine ⟨⟨rfl, Nat.le_of_ble_eq_true rfl⟩, ?_⟩
         | refine ⟨⟨rfl, rfl⟩, ?_⟩
         | refine ⟨⟨rfl, (by decide)⟩, ?_⟩
         | refine ⟨⟨rfl, ?_⟩, ?_⟩
         | refine ⟨Or.inr rfl, ?_⟩
         | refine ⟨Or.inl rfl, ?_⟩
         | refine ⟨⟨⟨rfl, rfl, rfl⟩, ?_⟩, ?_⟩
         | refine ⟨_, _, rfl, row_get _ _ arith, rfl, ?_⟩
         | refine ⟨Or.inr (by repeat (first | exact trivial | refine ⟨rfl, ?_⟩)), ?_⟩
         | refine ⟨(?_ : _ = ([] : List (List T))), ?_⟩
         | fail))
  · rw [cntAt_zero]; omega
  all_goals first
    | (have h0 := lt_mkr (by assumption); have h1 := cntAt_succ (x.map (eL eU)) (i := i) (by rw [List.length_map]; exact h0); have h2 := cntAt_le (x.map (eL eU)) (i + 1); rw [map_get] at h1; simp only [eL, cntCells, cntT, Nat.add_zero] at h1; rw [h1]; (try simp only [cntT]); (try simp (disch := omega) only [w64_ok]); omega)
    | (have h0 := ge_mkr (by assumption); rw [cntAt_all _ (by rw [List.length_map]; exact h0)])
theorem c_heldDatabaseS (x : (List DDatabase)) (k : Int) (hx : (szL DDatabase.sz) x ≤ 4611686018427387904) (hk : 0 ≤ k ∧ k + cntRows (x.map DDatabase.e) ≤ 4611686018427387904) : FnAt Tryz.prog 19 [.one (.lst (mkRows (x.map DDatabase.e) k)), .one (I k)] [.one (.s (I (k + cntRows (x.map DDatabase.e))))] := by
  have hl : x.length ≤ 4611686018427387904 := by first | exact hx | exact Nat.le_trans (szL_len _ _) hx
  refine fn_of Tryz.func19 rfl (by kernel_rfl) rfl ?_
  all_goals repeat' (first
    | (with_reducible rfl)
    | (conv => whnf
       first
         | exact trivial
         | (with_reducible rfl)
         | exact (rfl : (0 : Int) = ((0 : Nat) : Int))
         | exact w64_nat arith
         | refine bcase_T (by first | with_reducible rfl | decide) ?_
         | refine bcase_F (by first | with_reducible rfl | decide) ?_
         | refine bcase_dec (fun _ => ?_) (fun _ => ?_)
         | refine bcase_not ?_
         | refine bcase_intro (fun _ => ?_) (fun _ => ?_)
         | refine ⟨(by with_reducible rfl), ?_⟩
         | refine ⟨congrArg vi ?_, ?_⟩
         | refine ⟨congrArg vb ?_, ?_⟩
         | refine ⟨rfl, ?_⟩
         | refine ⟨(by kernel_rfl : drawOK _ = true), ?_⟩
         | refine Or.inl ?_
         | refine ⟨⟨congrArg (T.int _) ?_, rfl⟩, ?_⟩
         | refine ⟨⟨congrArg T.bool ?_, rfl⟩, ?_⟩
         | refine ⟨⟨rfl, Nat.le_of_ble_eq_true rfl⟩, ?_⟩
         | refine ⟨⟨rfl, rfl⟩, ?_⟩
         | refine ⟨⟨rfl, (by decide)⟩, ?_⟩
         | refine ⟨⟨rfl, ?_⟩, ?_⟩
         | refine ⟨Or.inr rfl, ?_⟩
         | refine ⟨Or.inl rfl, ?_⟩
         | refine ⟨⟨⟨rfl, rfl, rfl⟩, ?_⟩, ?_⟩
         | refine ⟨_, _, rfl, row_get _ _ arith, rfl, ?_⟩
         | refine ⟨Or.inr (by repeat (first | exact trivial | refine ⟨rfl, ?_⟩)), ?_⟩
         | refine ⟨(?_ : _ = ([] : List (List T))), ?_⟩
         | fail))
  conv => whnf
  refine ⟨Nat, fun i => i ≤ x.length, fun i => ⟨[(0, vl (mkRows (x.map DDatabase.e) k)), (1, vi (k + cntAt (x.map DDatabase.e) i)), (5, vi i)], [], 0⟩, fun i => x.length - i, 0, Nat.zero_le _, ⟨[], rfl, rfl, rfl, ?_, ?_⟩, fun i (hi : i ≤ x.length) => ?_⟩
  all_goals repeat' (first
    | (with_reducible rfl)
    | (conv => whnf
       first
         | refine ⟨i, _, rfl, mkRows_getm (lt_mkr (by assumption)), rfl, ?_⟩
         | refine bcase_F (by have h0 := lt_mkr (by assumption); have h1 := cntAt_succ (x.map DDatabase.e) (i := i) (by rw [List.length_map]; exact h0); have h2 := cntAt_le (x.map DDatabase.e) (i + 1); rw [map_get] at h1; simp only [DDatabase.e, cntCells, cntT, Nat.add_zero] at h1; first | (refine bne_eq_false_iff_eq.2 ?_; first | rfl | (simp (disch := omega) only [w64_ok, cntT]; first | done | omega)) | (rw [decide_eq_false_iff_not]; simp (disch := omega) only [w64_ok, cntT]; omega) | (rw [decide_eq_false_iff_not]; omega)) ?_
         | refine ⟨_, held_cast (c_heldByteSS _ _ (by have h0 := lt_mkr (by assumption); exact (by have h3 := szL_get DDatabase.sz x h0; simp only [DDatabase.sz] at h3; omega)) (by have h0 := lt_mkr (by assumption); have h1 := cntAt_succ (x.map DDatabase.e) (i := i) (by rw [List.length_map]; exact h0); have h2 := cntAt_le (x.map DDatabase.e) (i + 1); rw [map_get] at h1; simp only [DDatabase.e, cntCells, cntT, Nat.add_zero] at h1; (try simp only [cntT]); (try simp (disch := omega) only [w64_ok]); omega)) (by first | rfl | (have h0 := lt_mkr (by assumption); have h1 := cntAt_succ (x.map DDatabase.e) (i := i) (by rw [List.length_map]; exact h0); have h2 := cntAt_le (x.map DDatabase.e) (i + 1); rw [map_get] at h1; simp only [DDatabase.e, cntCells, cntT, Nat.add_zero] at h1; (try simp only [cntT]); (try simp (disch := omega) only [w64_ok]); omega)), ?_⟩
         | refine ⟨i + 1, ⟨arith, arith⟩, ⟨[], rfl, rfl, rfl, ?_, ?_⟩⟩
         | refine ⟨congrArg (T.int _) ?_, ?_⟩
         | exact trivial
         | (with_reducible rfl)
         | exact (rfl : (0 : Int) = ((0 : Nat) : Int))
         | exact w64_nat arith
         | refine bcase_T (by first | with_reducible rfl | decide) ?_
         | refine bcase_F (by first | with_reducible rfl | decide) ?_
         | refine bcase_dec (fun _ => ?_) (fun _ => ?_)
         | refine bcase_not ?_
         | refine bcase_intro (fun _ => ?_) (fun _ => ?_)
         | refine ⟨(by with_reducible rfl), ?_⟩
         | refine ⟨congrArg vi ?_, ?_⟩
         | refine ⟨congrArg vb ?_, ?_⟩
         | refine ⟨rfl, ?_⟩
         | refine ⟨(by kernel_rfl : drawOK _ = true), ?_⟩
         | refine Or.inl ?_
         | refine ⟨⟨congrArg (T.int _) ?_, rfl⟩, ?_⟩
         | refine ⟨⟨congrArg T.bool ?_, rfl⟩, ?_⟩
         | refine ⟨⟨rfl, Nat.le_of_ble_eq_true rfl⟩, ?_⟩
         | refine ⟨⟨rfl, rfl⟩, ?_⟩
         | refine ⟨⟨rfl, (by decide)⟩, ?_⟩
         | refine ⟨⟨rfl, ?_⟩, ?_⟩
         | refine ⟨Or.inr rfl, ?_⟩
         | refine ⟨Or.inl rfl, ?_⟩
         | refine ⟨⟨⟨rfl, rfl, rfl⟩, ?_⟩, ?_⟩
         | refine ⟨_, _, rfl, row_get _ _ arith, rfl, ?_⟩
         | refine ⟨Or.inr (by repeat (first | exact trivial | refine ⟨rfl, ?_⟩)), ?_⟩
         | refine ⟨(?_ : _ = ([] : List (List T))), ?_⟩
         | fail))
  · rw [cntAt_zero]; omega
  all_goals first
    | (have h0 := lt_mkr (by assumption); have h1 := cntAt_succ (x.map DDatabase.e) (i := i) (by rw [List.length_map]; exact h0); have h2 := cntAt_le (x.map DDatabase.e) (i + 1); rw [map_get] at h1; simp only [DDatabase.e, cntCells, cntT, Nat.add_zero] at h1; rw [h1]; (try simp only [cntT]); (try simp (disch := omega) only [w64_ok]); omega)
    | (have h0 := ge_mkr (by assumption); rw [cntAt_all _ (by rw [List.length_map]; exact h0)])
theorem c_heldReceivedShareS (x : (List DReceivedShare)) (k : Int) (hx : (szL DReceivedShare.sz) x ≤ 4611686018427387904) (hk : 0 ≤ k ∧ k + cntRows (x.map DReceivedShare.e) ≤ 4611686018427387904) : FnAt Tryz.prog 141 [.one (.lst (mkRows (x.map DReceivedShare.e) k)), .one (I k)] [.one (.s (I (k + cntRows (x.map DReceivedShare.e))))] := by
  have hl : x.length ≤ 4611686018427387904 := by first | exact hx | exact Nat.le_trans (szL_len _ _) hx
  refine fn_of Tryz.func141 rfl (by kernel_rfl) rfl ?_
  all_goals repeat' (first
    | (with_reducible rfl)
    | (conv => whnf
       first
         | exact trivial
         | (with_reducible rfl)
         | exact (rfl : (0 : Int) = ((0 : Nat) : Int))
         | exact w64_nat arith
         | refine bcase_T (by first | with_reducible rfl | decide) ?_
         | refine bcase_F (by first | with_reducible rfl | decide) ?_
         | refine bcase_dec (fun _ => ?_) (fun _ => ?_)
         | refine bcase_not ?_
         | refine bcase_intro (fun _ => ?_) (fun _ => ?_)
         | refine ⟨(by with_reducible rfl), ?_⟩
         | refine ⟨congrArg vi ?_, ?_⟩
         | refine ⟨congrArg vb ?_, ?_⟩
         | refine ⟨rfl, ?_⟩
         | refine ⟨(by kernel_rfl : drawOK _ = true), ?_⟩
         | refine Or.inl ?_
         | refine ⟨⟨congrArg (T.int _) ?_, rfl⟩, ?_⟩
         | refine ⟨⟨congrArg T.bool ?_, rfl⟩, ?_⟩
         | refine ⟨⟨rfl, Nat.le_of_ble_eq_true rfl⟩, ?_⟩
         | refine ⟨⟨rfl, rfl⟩, ?_⟩
         | refine ⟨⟨rfl, (by decide)⟩, ?_⟩
         | refine ⟨⟨rfl, ?_⟩, ?_⟩
         | refine ⟨Or.inr rfl, ?_⟩
         | refine ⟨Or.inl rfl, ?_⟩
         | refine ⟨⟨⟨rfl, rfl, rfl⟩, ?_⟩, ?_⟩
         | refine ⟨_, _, rfl, row_get _ _ arith, rfl, ?_⟩
         | refine ⟨Or.inr (by repeat (first | exact trivial | refine ⟨rfl, ?_⟩)), ?_⟩
         | refine ⟨(?_ : _ = ([] : List (List T))), ?_⟩
         | fail))
  conv => whnf
  refine ⟨Nat, fun i => i ≤ x.length, fun i => ⟨[(0, vl (mkRows (x.map DReceivedShare.e) k)), (1, vi (k + cntAt (x.map DReceivedShare.e) i)), (5, vi i)], [], 0⟩, fun i => x.length - i, 0, Nat.zero_le _, ⟨[], rfl, rfl, rfl, ?_, ?_⟩, fun i (hi : i ≤ x.length) => ?_⟩
  all_goals repeat' (first
    | (with_reducible rfl)
    | (conv => whnf
       first
         | refine ⟨i, _, rfl, mkRows_getm (lt_mkr (by assumption)), rfl, ?_⟩
         | refine bcase_F (by have h0 := lt_mkr (by assumption); have h1 := cntAt_succ (x.map DReceivedShare.e) (i := i) (by rw [List.length_map]; exact h0); have h2 := cntAt_le (x.map DReceivedShare.e) (i + 1); rw [map_get] at h1; simp only [DReceivedShare.e, cntCells, cntT, Nat.add_zero] at h1; first | (refine bne_eq_false_iff_eq.2 ?_; first | rfl | (simp (disch := omega) only [w64_ok, cntT]; first | done | omega)) | (rw [decide_eq_false_iff_not]; simp (disch := omega) only [w64_ok, cntT]; omega) | (rw [decide_eq_false_iff_not]; omega)) ?_
         | refine ⟨_, held_cast (c_heldByteSS _ _ (by have h0 := lt_mkr (by assumption); exact (by have h3 := szL_get DReceivedShare.sz x h0; simp only [DReceivedShare.sz, DDatabase.sz] at h3; omega)) (by have h0 := lt_mkr (by assumption); have h1 := cntAt_succ (x.map DReceivedShare.e) (i := i) (by rw [List.length_map]; exact h0); have h2 := cntAt_le (x.map DReceivedShare.e) (i + 1); rw [map_get] at h1; simp only [DReceivedShare.e, cntCells, cntT, Nat.add_zero] at h1; (try simp only [cntT]); (try simp (disch := omega) only [w64_ok]); omega)) (by first | rfl | (have h0 := lt_mkr (by assumption); have h1 := cntAt_succ (x.map DReceivedShare.e) (i := i) (by rw [List.length_map]; exact h0); have h2 := cntAt_le (x.map DReceivedShare.e) (i + 1); rw [map_get] at h1; simp only [DReceivedShare.e, cntCells, cntT, Nat.add_zero] at h1; (try simp only [cntT]); (try simp (disch := omega) only [w64_ok]); omega)), ?_⟩
         | refine ⟨i + 1, ⟨arith, arith⟩, ⟨[], rfl, rfl, rfl, ?_, ?_⟩⟩
         | refine ⟨congrArg (T.int _) ?_, ?_⟩
         | exact trivial
         | (with_reducible rfl)
         | exact (rfl : (0 : Int) = ((0 : Nat) : Int))
         | exact w64_nat arith
         | refine bcase_T (by first | with_reducible rfl | decide) ?_
         | refine bcase_F (by first | with_reducible rfl | decide) ?_
         | refine bcase_dec (fun _ => ?_) (fun _ => ?_)
         | refine bcase_not ?_
         | refine bcase_intro (fun _ => ?_) (fun _ => ?_)
         | refine ⟨(by with_reducible rfl), ?_⟩
         | refine ⟨congrArg vi ?_, ?_⟩
         | refine ⟨congrArg vb ?_, ?_⟩
         | refine ⟨rfl, ?_⟩
         | refine ⟨(by kernel_rfl : drawOK _ = true), ?_⟩
         | refine Or.inl ?_
         | refine ⟨⟨congrArg (T.int _) ?_, rfl⟩, ?_⟩
         | refine ⟨⟨congrArg T.bool ?_, rfl⟩, ?_⟩
         | refine ⟨⟨rfl, Nat.le_of_ble_eq_true rfl⟩, ?_⟩
         | refine ⟨⟨rfl, rfl⟩, ?_⟩
         | refine ⟨⟨rfl, (by decide)⟩, ?_⟩
         | refine ⟨⟨rfl, ?_⟩, ?_⟩
         | refine ⟨Or.inr rfl, ?_⟩
         | refine ⟨Or.inl rfl, ?_⟩
         | refine ⟨⟨⟨rfl, rfl, rfl⟩, ?_⟩, ?_⟩
         | refine ⟨_, _, rfl, row_get _ _ arith, rfl, ?_⟩
         | refine ⟨Or.inr (by repeat (first | exact trivial | refine ⟨rfl, ?_⟩)), ?_⟩
         | refine ⟨(?_ : _ = ([] : List (List T))), ?_⟩
         | fail))
  · rw [cntAt_zero]; omega
  all_goals first
    | (have h0 := lt_mkr (by assumption); have h1 := cntAt_succ (x.map DReceivedShare.e) (i := i) (by rw [List.length_map]; exact h0); have h2 := cntAt_le (x.map DReceivedShare.e) (i + 1); rw [map_get] at h1; simp only [DReceivedShare.e, cntCells, cntT, Nat.add_zero] at h1; rw [h1]; (try simp only [cntT]); (try simp (disch := omega) only [w64_ok]); omega)
    | (have h0 := ge_mkr (by assumption); rw [cntAt_all _ (by rw [List.length_map]; exact h0)])
theorem c_heldServerS (x : (List DServer)) (k : Int) (hx : (szL DServer.sz) x ≤ 4611686018427387904) (hk : 0 ≤ k ∧ k + cntRows (x.map DServer.e) ≤ 4611686018427387904) : FnAt Tryz.prog 72 [.one (.lst (mkRows (x.map DServer.e) k)), .one (I k)] [.one (.s (I (k + cntRows (x.map DServer.e))))] := by
  have hl : x.length ≤ 4611686018427387904 := by first | exact hx | exact Nat.le_trans (szL_len _ _) hx
  refine fn_of Tryz.func72 rfl (by kernel_rfl) rfl ?_
  all_goals repeat' (first
    | (with_reducible rfl)
    | (conv => whnf
       first
         | exact trivial
         | (with_reducible rfl)
         | exact (rfl : (0 : Int) = ((0 : Nat) : Int))
         | exact w64_nat arith
         | refine bcase_T (by first | with_reducible rfl | decide) ?_
         | refine bcase_F (by first | with_reducible rfl | decide) ?_
         | refine bcase_dec (fun _ => ?_) (fun _ => ?_)
         | refine bcase_not ?_
         | refine bcase_intro (fun _ => ?_) (fun _ => ?_)
         | refine ⟨(by with_reducible rfl), ?_⟩
         | refine ⟨congrArg vi ?_, ?_⟩
         | refine ⟨congrArg vb ?_, ?_⟩
         | refine ⟨rfl, ?_⟩
         | refine ⟨(by kernel_rfl : drawOK _ = true), ?_⟩
         | refine Or.inl ?_
         | refine ⟨⟨congrArg (T.int _) ?_, rfl⟩, ?_⟩
         | refine ⟨⟨congrArg T.bool ?_, rfl⟩, ?_⟩
         | refine ⟨⟨rfl, Nat.le_of_ble_eq_true rfl⟩, ?_⟩
         | refine ⟨⟨rfl, rfl⟩, ?_⟩
         | refine ⟨⟨rfl, (by decide)⟩, ?_⟩
         | refine ⟨⟨rfl, ?_⟩, ?_⟩
         | refine ⟨Or.inr rfl, ?_⟩
         | refine ⟨Or.inl rfl, ?_⟩
         | refine ⟨⟨⟨rfl, rfl, rfl⟩, ?_⟩, ?_⟩
         | refine ⟨_, _, rfl, row_get _ _ arith, rfl, ?_⟩
         | refine ⟨Or.inr (by repeat (first | exact trivial | refine ⟨rfl, ?_⟩)), ?_⟩
         | refine ⟨(?_ : _ = ([] : List (List T))), ?_⟩
         | fail))
  conv => whnf
  refine ⟨Nat, fun i => i ≤ x.length, fun i => ⟨[(0, vl (mkRows (x.map DServer.e) k)), (1, vi (k + cntAt (x.map DServer.e) i)), (5, vi i)], [], 0⟩, fun i => x.length - i, 0, Nat.zero_le _, ⟨[], rfl, rfl, rfl, ?_, ?_⟩, fun i (hi : i ≤ x.length) => ?_⟩
  all_goals repeat' (first
    | (with_reducible rfl)
    | (conv => whnf
       first
         | refine ⟨i, _, rfl, mkRows_getm (lt_mkr (by assumption)), rfl, ?_⟩
         | refine bcase_F (by have h0 := lt_mkr (by assumption); have h1 := cntAt_succ (x.map DServer.e) (i := i) (by rw [List.length_map]; exact h0); have h2 := cntAt_le (x.map DServer.e) (i + 1); rw [map_get] at h1; simp only [DServer.e, cntCells, cntT, Nat.add_zero] at h1; first | (refine bne_eq_false_iff_eq.2 ?_; first | rfl | (simp (disch := omega) only [w64_ok, cntT]; first | done | omega)) | (rw [decide_eq_false_iff_not]; simp (disch := omega) only [w64_ok, cntT]; omega) | (rw [decide_eq_false_iff_not]; omega)) ?_
         | refine ⟨_, held_cast (c_heldReceivedShareS _ _ (by have h0 := lt_mkr (by assumption); exact (by have h3 := szL_get DServer.sz x h0; simp only [DServer.sz] at h3; omega)) (by have h0 := lt_mkr (by assumption); have h1 := cntAt_succ (x.map DServer.e) (i := i) (by rw [List.length_map]; exact h0); have h2 := cntAt_le (x.map DServer.e) (i + 1); rw [map_get] at h1; simp only [DServer.e, cntCells, cntT, Nat.add_zero] at h1; (try simp only [cntT]); (try simp (disch := omega) only [w64_ok]); omega)) (by first | rfl | (have h0 := lt_mkr (by assumption); have h1 := cntAt_succ (x.map DServer.e) (i := i) (by rw [List.length_map]; exact h0); have h2 := cntAt_le (x.map DServer.e) (i + 1); rw [map_get] at h1; simp only [DServer.e, cntCells, cntT, Nat.add_zero] at h1; (try simp only [cntT]); (try simp (disch := omega) only [w64_ok]); omega)), ?_⟩
         | refine ⟨i + 1, ⟨arith, arith⟩, ⟨[], rfl, rfl, rfl, ?_, ?_⟩⟩
         | refine ⟨congrArg (T.int _) ?_, ?_⟩
         | exact trivial
         | (with_reducible rfl)
         | exact (rfl : (0 : Int) = ((0 : Nat) : Int))
         | exact w64_nat arith
         | refine bcase_T (by first | with_reducible rfl | decide) ?_
         | refine bcase_F (by first | with_reducible rfl | decide) ?_
         | refine bcase_dec (fun _ => ?_) (fun _ => ?_)
         | refine bcase_not ?_
         | refine bcase_intro (fun _ => ?_) (fun _ => ?_)
         | refine ⟨(by with_reducible rfl), ?_⟩
         | refine ⟨congrArg vi ?_, ?_⟩
         | refine ⟨congrArg vb ?_, ?_⟩
         | refine ⟨rfl, ?_⟩
         | refine ⟨(by kernel_rfl : drawOK _ = true), ?_⟩
         | refine Or.inl ?_
         | refine ⟨⟨congrArg (T.int _) ?_, rfl⟩, ?_⟩
         | refine ⟨⟨congrArg T.bool ?_, rfl⟩, ?_⟩
         | refine ⟨⟨rfl, Nat.le_of_ble_eq_true rfl⟩, ?_⟩
         | refine ⟨⟨rfl, rfl⟩, ?_⟩
         | refine ⟨⟨rfl, (by decide)⟩, ?_⟩
         | refine ⟨⟨rfl, ?_⟩, ?_⟩
         | refine ⟨Or.inr rfl, ?_⟩
         | refine ⟨Or.inl rfl, ?_⟩
         | refine ⟨⟨⟨rfl, rfl, rfl⟩, ?_⟩, ?_⟩
         | refine ⟨_, _, rfl, row_get _ _ arith, rfl, ?_⟩
         | refine ⟨Or.inr (by repeat (first | exact trivial | refine ⟨rfl, ?_⟩)), ?_⟩
         | refine ⟨(?_ : _ = ([] : List (List T))), ?_⟩
         | fail))
  · rw [cntAt_zero]; omega
  all_goals first
    | (have h0 := lt_mkr (by assumption); have h1 := cntAt_succ (x.map DServer.e) (i := i) (by rw [List.length_map]; exact h0); have h2 := cntAt_le (x.map DServer.e) (i + 1); rw [map_get] at h1; simp only [DServer.e, cntCells, cntT, Nat.add_zero] at h1; rw [h1]; (try simp only [cntT]); (try simp (disch := omega) only [w64_ok]); omega)
    | (have h0 := ge_mkr (by assumption); rw [cntAt_all _ (by rw [List.length_map]; exact h0)])
theorem c_heldDeviceS (x : (List DDevice)) (k : Int) (hx : (szL DDevice.sz) x ≤ 4611686018427387904) (hk : 0 ≤ k ∧ k + cntRows (x.map DDevice.e) ≤ 4611686018427387904) : FnAt Tryz.prog 73 [.one (.lst (mkRows (x.map DDevice.e) k)), .one (I k)] [.one (.s (I (k + cntRows (x.map DDevice.e))))] := by
  have hl : x.length ≤ 4611686018427387904 := by first | exact hx | exact Nat.le_trans (szL_len _ _) hx
  refine fn_of Tryz.func73 rfl (by kernel_rfl) rfl ?_
  all_goals repeat' (first
    | (with_reducible rfl)
    | (conv => whnf
       first
         | exact trivial
         | (with_reducible rfl)
         | exact (rfl : (0 : Int) = ((0 : Nat) : Int))
         | exact w64_nat arith
         | refine bcase_T (by first | with_reducible rfl | decide) ?_
         | refine bcase_F (by first | with_reducible rfl | decide) ?_
         | refine bcase_dec (fun _ => ?_) (fun _ => ?_)
         | refine bcase_not ?_
         | refine bcase_intro (fun _ => ?_) (fun _ => ?_)
         | refine ⟨(by with_reducible rfl), ?_⟩
         | refine ⟨congrArg vi ?_, ?_⟩
         | refine ⟨congrArg vb ?_, ?_⟩
         | refine ⟨rfl, ?_⟩
         | refine ⟨(by kernel_rfl : drawOK _ = true), ?_⟩
         | refine Or.inl ?_
         | refine ⟨⟨congrArg (T.int _) ?_, rfl⟩, ?_⟩
         | refine ⟨⟨congrArg T.bool ?_, rfl⟩, ?_⟩
         | refine ⟨⟨rfl, Nat.le_of_ble_eq_true rfl⟩, ?_⟩
         | refine ⟨⟨rfl, rfl⟩, ?_⟩
         | refine ⟨⟨rfl, (by decide)⟩, ?_⟩
         | refine ⟨⟨rfl, ?_⟩, ?_⟩
         | refine ⟨Or.inr rfl, ?_⟩
         | refine ⟨Or.inl rfl, ?_⟩
         | refine ⟨⟨⟨rfl, rfl, rfl⟩, ?_⟩, ?_⟩
         | refine ⟨_, _, rfl, row_get _ _ arith, rfl, ?_⟩
         | refine ⟨Or.inr (by repeat (first | exact trivial | refine ⟨rfl, ?_⟩)), ?_⟩
         | refine ⟨(?_ : _ = ([] : List (List T))), ?_⟩
         | fail))
  conv => whnf
  refine ⟨Nat, fun i => i ≤ x.length, fun i => ⟨[(0, vl (mkRows (x.map DDevice.e) k)), (1, vi (k + cntAt (x.map DDevice.e) i)), (5, vi i)], [], 0⟩, fun i => x.length - i, 0, Nat.zero_le _, ⟨[], rfl, rfl, rfl, ?_, ?_⟩, fun i (hi : i ≤ x.length) => ?_⟩
  all_goals repeat' (first
    | (with_reducible rfl)
    | (conv => whnf
       first
         | refine ⟨i, _, rfl, mkRows_getm (lt_mkr (by assumption)), rfl, ?_⟩
         | refine bcase_F (by have h0 := lt_mkr (by assumption); have h1 := cntAt_succ (x.map DDevice.e) (i := i) (by rw [List.length_map]; exact h0); have h2 := cntAt_le (x.map DDevice.e) (i + 1); rw [map_get] at h1; simp only [DDevice.e, cntCells, cntT, Nat.add_zero] at h1; first | (refine bne_eq_false_iff_eq.2 ?_; first | rfl | (simp (disch := omega) only [w64_ok, cntT]; first | done | omega)) | (rw [decide_eq_false_iff_not]; simp (disch := omega) only [w64_ok, cntT]; omega) | (rw [decide_eq_false_iff_not]; omega)) ?_
         | refine ⟨_, held_cast (c_heldByteSS _ _ (by have h0 := lt_mkr (by assumption); exact (by have h3 := szL_get DDevice.sz x h0; simp only [DDevice.sz, DClient.sz, DClient.sz] at h3; omega)) (by have h0 := lt_mkr (by assumption); have h1 := cntAt_succ (x.map DDevice.e) (i := i) (by rw [List.length_map]; exact h0); have h2 := cntAt_le (x.map DDevice.e) (i + 1); rw [map_get] at h1; simp only [DDevice.e, cntCells, cntT, Nat.add_zero] at h1; (try simp only [cntT]); (try simp (disch := omega) only [w64_ok]); omega)) (by first | rfl | (have h0 := lt_mkr (by assumption); have h1 := cntAt_succ (x.map DDevice.e) (i := i) (by rw [List.length_map]; exact h0); have h2 := cntAt_le (x.map DDevice.e) (i + 1); rw [map_get] at h1; simp only [DDevice.e, cntCells, cntT, Nat.add_zero] at h1; (try simp only [cntT]); (try simp (disch := omega) only [w64_ok]); omega)), ?_⟩
         | refine ⟨i + 1, ⟨arith, arith⟩, ⟨[], rfl, rfl, rfl, ?_, ?_⟩⟩
         | refine ⟨congrArg (T.int _) ?_, ?_⟩
         | exact trivial
         | (with_reducible rfl)
         | exact (rfl : (0 : Int) = ((0 : Nat) : Int))
         | exact w64_nat arith
         | refine bcase_T (by first | with_reducible rfl | decide) ?_
         | refine bcase_F (by first | with_reducible rfl | decide) ?_
         | refine bcase_dec (fun _ => ?_) (fun _ => ?_)
         | refine bcase_not ?_
         | refine bcase_intro (fun _ => ?_) (fun _ => ?_)
         | refine ⟨(by with_reducible rfl), ?_⟩
         | refine ⟨congrArg vi ?_, ?_⟩
         | refine ⟨congrArg vb ?_, ?_⟩
         | refine ⟨rfl, ?_⟩
         | refine ⟨(by kernel_rfl : drawOK _ = true), ?_⟩
         | refine Or.inl ?_
         | refine ⟨⟨congrArg (T.int _) ?_, rfl⟩, ?_⟩
         | refine ⟨⟨congrArg T.bool ?_, rfl⟩, ?_⟩
         | refine ⟨⟨rfl, Nat.le_of_ble_eq_true rfl⟩, ?_⟩
         | refine ⟨⟨rfl, rfl⟩, ?_⟩
         | refine ⟨⟨rfl, (by decide)⟩, ?_⟩
         | refine ⟨⟨rfl, ?_⟩, ?_⟩
         | refine ⟨Or.inr rfl, ?_⟩
         | refine ⟨Or.inl rfl, ?_⟩
         | refine ⟨⟨⟨rfl, rfl, rfl⟩, ?_⟩, ?_⟩
         | refine ⟨_, _, rfl, row_get _ _ arith, rfl, ?_⟩
         | refine ⟨Or.inr (by repeat (first | exact trivial | refine ⟨rfl, ?_⟩)), ?_⟩
         | refine ⟨(?_ : _ = ([] : List (List T))), ?_⟩
         | fail))
  · rw [cntAt_zero]; omega
  all_goals first
    | (have h0 := lt_mkr (by assumption); have h1 := cntAt_succ (x.map DDevice.e) (i := i) (by rw [List.length_map]; exact h0); have h2 := cntAt_le (x.map DDevice.e) (i + 1); rw [map_get] at h1; simp only [DDevice.e, cntCells, cntT, Nat.add_zero] at h1; rw [h1]; (try simp only [cntT]); (try simp (disch := omega) only [w64_ok]); omega)
    | (have h0 := ge_mkr (by assumption); rw [cntAt_all _ (by rw [List.length_map]; exact h0)])
theorem c_heldArchivedRoundS (x : (List DArchivedRound)) (k : Int) (hx : (szL DArchivedRound.sz) x ≤ 4611686018427387904) (hk : 0 ≤ k ∧ k + cntRows (x.map DArchivedRound.e) ≤ 4611686018427387904) : FnAt Tryz.prog 142 [.one (.lst (mkRows (x.map DArchivedRound.e) k)), .one (I k)] [.one (.s (I (k + cntRows (x.map DArchivedRound.e))))] := by
  have hl : x.length ≤ 4611686018427387904 := by first | exact hx | exact Nat.le_trans (szL_len _ _) hx
  refine fn_of Tryz.func142 rfl (by kernel_rfl) rfl ?_
  all_goals repeat' (first
    | (with_reducible rfl)
    | (conv => whnf
       first
         | exact trivial
         | (with_reducible rfl)
         | exact (rfl : (0 : Int) = ((0 : Nat) : Int))
         | exact w64_nat arith
         | refine bcase_T (by first | with_reducible rfl | decide) ?_
         | refine bcase_F (by first | with_reducible rfl | decide) ?_
         | refine bcase_dec (fun _ => ?_) (fun _ => ?_)
         | refine bcase_not ?_
         | refine bcase_intro (fun _ => ?_) (fun _ => ?_)
         | refine ⟨(by with_reducible rfl), ?_⟩
         | refine ⟨congrArg vi ?_, ?_⟩
         | refine ⟨congrArg vb ?_, ?_⟩
         | refine ⟨rfl, ?_⟩
         | refine ⟨(by kernel_rfl : drawOK _ = true), ?_⟩
         | refine Or.inl ?_
         | refine ⟨⟨congrArg (T.int _) ?_, rfl⟩, ?_⟩
         | refine ⟨⟨congrArg T.bool ?_, rfl⟩, ?_⟩
         | refine ⟨⟨rfl, Nat.le_of_ble_eq_true rfl⟩, ?_⟩
         | refine ⟨⟨rfl, rfl⟩, ?_⟩
         | refine ⟨⟨rfl, (by decide)⟩, ?_⟩
         | refine ⟨⟨rfl, ?_⟩, ?_⟩
         | refine ⟨Or.inr rfl, ?_⟩
         | refine ⟨Or.inl rfl, ?_⟩
         | refine ⟨⟨⟨rfl, rfl, rfl⟩, ?_⟩, ?_⟩
         | refine ⟨_, _, rfl, row_get _ _ arith, rfl, ?_⟩
         | refine ⟨Or.inr (by repeat (first | exact trivial | refine ⟨rfl, ?_⟩)), ?_⟩
         | refine ⟨(?_ : _ = ([] : List (List T))), ?_⟩
         | fail))
  conv => whnf
  refine ⟨Nat, fun i => i ≤ x.length, fun i => ⟨[(0, vl (mkRows (x.map DArchivedRound.e) k)), (1, vi (k + cntAt (x.map DArchivedRound.e) i)), (5, vi i)], [], 0⟩, fun i => x.length - i, 0, Nat.zero_le _, ⟨[], rfl, rfl, rfl, ?_, ?_⟩, fun i (hi : i ≤ x.length) => ?_⟩
  all_goals repeat' (first
    | (with_reducible rfl)
    | (conv => whnf
       first
         | refine ⟨i, _, rfl, mkRows_getm (lt_mkr (by assumption)), rfl, ?_⟩
         | refine bcase_F (by have h0 := lt_mkr (by assumption); have h1 := cntAt_succ (x.map DArchivedRound.e) (i := i) (by rw [List.length_map]; exact h0); have h2 := cntAt_le (x.map DArchivedRound.e) (i + 1); rw [map_get] at h1; simp only [DArchivedRound.e, cntCells, cntT, Nat.add_zero] at h1; first | (refine bne_eq_false_iff_eq.2 ?_; first | rfl | (simp (disch := omega) only [w64_ok, cntT]; first | done | omega)) | (rw [decide_eq_false_iff_not]; simp (disch := omega) only [w64_ok, cntT]; omega) | (rw [decide_eq_false_iff_not]; omega)) ?_
         | refine ⟨_, held_cast (c_heldByteSS _ _ (by have h0 := lt_mkr (by assumption); exact (by have h3 := szL_get DArchivedRound.sz x h0; simp only [DArchivedRound.sz, DDatabase.sz] at h3; omega)) (by have h0 := lt_mkr (by assumption); have h1 := cntAt_succ (x.map DArchivedRound.e) (i := i) (by rw [List.length_map]; exact h0); have h2 := cntAt_le (x.map DArchivedRound.e) (i + 1); rw [map_get] at h1; simp only [DArchivedRound.e, cntCells, cntT, Nat.add_zero] at h1; (try simp only [cntT]); (try simp (disch := omega) only [w64_ok]); omega)) (by first | rfl | (have h0 := lt_mkr (by assumption); have h1 := cntAt_succ (x.map DArchivedRound.e) (i := i) (by rw [List.length_map]; exact h0); have h2 := cntAt_le (x.map DArchivedRound.e) (i + 1); rw [map_get] at h1; simp only [DArchivedRound.e, cntCells, cntT, Nat.add_zero] at h1; (try simp only [cntT]); (try simp (disch := omega) only [w64_ok]); omega)), ?_⟩
         | refine ⟨i + 1, ⟨arith, arith⟩, ⟨[], rfl, rfl, rfl, ?_, ?_⟩⟩
         | refine ⟨congrArg (T.int _) ?_, ?_⟩
         | exact trivial
         | (with_reducible rfl)
         | exact (rfl : (0 : Int) = ((0 : Nat) : Int))
         | exact w64_nat arith
         | refine bcase_T (by first | with_reducible rfl | decide) ?_
         | refine bcase_F (by first | with_reducible rfl | decide) ?_
         | refine bcase_dec (fun _ => ?_) (fun _ => ?_)
         | refine bcase_not ?_
         | refine bcase_intro (fun _ => ?_) (fun _ => ?_)
         | refine ⟨(by with_reducible rfl), ?_⟩
         | refine ⟨congrArg vi ?_, ?_⟩
         | refine ⟨congrArg vb ?_, ?_⟩
         | refine ⟨rfl, ?_⟩
         | refine ⟨(by kernel_rfl : drawOK _ = true), ?_⟩
         | refine Or.inl ?_
         | refine ⟨⟨congrArg (T.int _) ?_, rfl⟩, ?_⟩
         | refine ⟨⟨congrArg T.bool ?_, rfl⟩, ?_⟩
         | refine ⟨⟨rfl, Nat.le_of_ble_eq_true rfl⟩, ?_⟩
         | refine ⟨⟨rfl, rfl⟩, ?_⟩
         | refine ⟨⟨rfl, (by decide)⟩, ?_⟩
         | refine ⟨⟨rfl, ?_⟩, ?_⟩
         | refine ⟨Or.inr rfl, ?_⟩
         | refine ⟨Or.inl rfl, ?_⟩
         | refine ⟨⟨⟨rfl, rfl, rfl⟩, ?_⟩, ?_⟩
         | refine ⟨_, _, rfl, row_get _ _ arith, rfl, ?_⟩
         | refine ⟨Or.inr (by repeat (first | exact trivial | refine ⟨rfl, ?_⟩)), ?_⟩
         | refine ⟨(?_ : _ = ([] : List (List T))), ?_⟩
         | fail))
  · rw [cntAt_zero]; omega
  all_goals first
    | (have h0 := lt_mkr (by assumption); have h1 := cntAt_succ (x.map DArchivedRound.e) (i := i) (by rw [List.length_map]; exact h0); have h2 := cntAt_le (x.map DArchivedRound.e) (i + 1); rw [map_get] at h1; simp only [DArchivedRound.e, cntCells, cntT, Nat.add_zero] at h1; rw [h1]; (try simp only [cntT]); (try simp (disch := omega) only [w64_ok]); omega)
    | (have h0 := ge_mkr (by assumption); rw [cntAt_all _ (by rw [List.length_map]; exact h0)])
theorem c_heldArchive (x : DArchive) (k : Int) (hx : DArchive.sz x ≤ 4611686018427387904) (hk : 0 ≤ k ∧ (k + cntRows (x.Rounds.map DArchivedRound.e)) ≤ 4611686018427387904) : FnAt Tryz.prog 74 [.agg [I x.Rows, .lst (mkRows (x.Rounds.map DArchivedRound.e) k)], .one (I k)] [.one (.s (I (k + cntRows (x.Rounds.map DArchivedRound.e))))] := by
  refine fn_of Tryz.func74 rfl (by kernel_rfl) rfl ?_
  all_goals repeat' (first
    | (with_reducible rfl)
    | (conv => whnf
       first
         | refine ⟨_, c_heldArchivedRoundS _ _ (by simp only [DArchive.sz] at hx; omega) (by omega), ?_⟩
         | refine bcase_F (by rw [decide_eq_false_iff_not]; omega) ?_
         | exact trivial
         | (with_reducible rfl)
         | exact (rfl : (0 : Int) = ((0 : Nat) : Int))
         | exact w64_nat arith
         | refine bcase_T (by first | with_reducible rfl | decide) ?_
         | refine bcase_F (by first | with_reducible rfl | decide) ?_
         | refine bcase_dec (fun _ => ?_) (fun _ => ?_)
         | refine bcase_not ?_
         | refine bcase_intro (fun _ => ?_) (fun _ => ?_)
         | refine ⟨(by with_reducible rfl), ?_⟩
         | refine ⟨congrArg vi ?_, ?_⟩
         | refine ⟨congrArg vb ?_, ?_⟩
         | refine ⟨rfl, ?_⟩
         | refine ⟨(by kernel_rfl : drawOK _ = true), ?_⟩
         | refine Or.inl ?_
         | refine ⟨⟨congrArg (T.int _) ?_, rfl⟩, ?_⟩
         | refine ⟨⟨congrArg T.bool ?_, rfl⟩, ?_⟩
         | refine ⟨⟨rfl, Nat.le_of_ble_eq_true rfl⟩, ?_⟩
         | refine ⟨⟨rfl, rfl⟩, ?_⟩
         | refine ⟨⟨rfl, (by decide)⟩, ?_⟩
         | refine ⟨⟨rfl, ?_⟩, ?_⟩
         | refine ⟨Or.inr rfl, ?_⟩
         | refine ⟨Or.inl rfl, ?_⟩
         | refine ⟨⟨⟨rfl, rfl, rfl⟩, ?_⟩, ?_⟩
         | refine ⟨_, _, rfl, row_get _ _ arith, rfl, ?_⟩
         | refine ⟨Or.inr (by repeat (first | exact trivial | refine ⟨rfl, ?_⟩)), ?_⟩
         | refine ⟨(?_ : _ = ([] : List (List T))), ?_⟩
         | fail))
  all_goals rfl
theorem c_heldIntS (x : (List Int)) (k : Int) (hx : List.length x ≤ 4611686018427387904) (hk : 0 ≤ k ∧ k + cntRows (x.map eI) ≤ 4611686018427387904) : FnAt Tryz.prog 75 [.one (.lst (mkRows (x.map eI) k)), .one (I k)] [.one (.s (I (k + cntRows (x.map eI))))] := by
  have hl : x.length ≤ 4611686018427387904 := by first | exact hx | exact Nat.le_trans (szL_len _ _) hx
  refine fn_of Tryz.func75 rfl (by kernel_rfl) rfl ?_
  all_goals repeat' (first
    | (with_reducible rfl)
    | (conv => whnf
       first
         | exact trivial
         | (with_reducible rfl)
         | exact (rfl : (0 : Int) = ((0 : Nat) : Int))
         | exact w64_nat arith
         | refine bcase_T (by first | with_reducible rfl | decide) ?_
         | refine bcase_F (by first | with_reducible rfl | decide) ?_
         | refine bcase_dec (fun _ => ?_) (fun _ => ?_)
         | refine bcase_not ?_
         | refine bcase_intro (fun _ => ?_) (fun _ => ?_)
         | refine ⟨(by with_reducible rfl), ?_⟩
         | refine ⟨congrArg vi ?_, ?_⟩
         | refine ⟨congrArg vb ?_, ?_⟩
         | refine ⟨rfl, ?_⟩
         | refine ⟨(by kernel_rfl : drawOK _ = true), ?_⟩
         | refine Or.inl ?_
         | refine ⟨⟨congrArg (T.int _) ?_, rfl⟩, ?_⟩
         | refine ⟨⟨congrArg T.bool ?_, rfl⟩, ?_⟩
         | refine ⟨⟨rfl, Nat.le_of_ble_eq_true rfl⟩, ?_⟩
         | refine ⟨⟨rfl, rfl⟩, ?_⟩
         | refine ⟨⟨rfl, (by decide)⟩, ?_⟩
         | refine ⟨⟨rfl, ?_⟩, ?_⟩
         | refine ⟨Or.inr rfl, ?_⟩
         | refine ⟨Or.inl rfl, ?_⟩
         | refine ⟨⟨⟨rfl, rfl, rfl⟩, ?_⟩, ?_⟩
         | refine ⟨_, _, rfl, row_get _ _ arith, rfl, ?_⟩
         | refine ⟨Or.inr (by repeat (first | exact trivial | refine ⟨rfl, ?_⟩)), ?_⟩
         | refine ⟨(?_ : _ = ([] : List (List T))), ?_⟩
         | fail))
  conv => whnf
  refine ⟨Nat, fun i => i ≤ x.length, fun i => ⟨[(0, vl (mkRows (x.map eI) k)), (1, vi (k + cntAt (x.map eI) i)), (5, vi i)], [], 0⟩, fun i => x.length - i, 0, Nat.zero_le _, ⟨[], rfl, rfl, rfl, ?_, ?_⟩, fun i (hi : i ≤ x.length) => ?_⟩
  all_goals repeat' (first
    | (with_reducible rfl)
    | (conv => whnf
       first
         | refine ⟨i, _, rfl, mkRows_getm (lt_mkr (by assumption)), rfl, ?_⟩
         | refine bcase_F (by have h0 := lt_mkr (by assumption); have h1 := cntAt_succ (x.map eI) (i := i) (by rw [List.length_map]; exact h0); have h2 := cntAt_le (x.map eI) (i + 1); rw [map_get] at h1; simp only [eI, cntCells, cntT, Nat.add_zero] at h1; first | (refine bne_eq_false_iff_eq.2 ?_; first | rfl | (simp (disch := omega) only [w64_ok, cntT]; first | done | omega)) | (rw [decide_eq_false_iff_not]; simp (disch := omega) only [w64_ok, cntT]; omega) | (rw [decide_eq_false_iff_not]; omega)) ?_
         | refine ⟨i + 1, ⟨arith, arith⟩, ⟨[], rfl, rfl, rfl, ?_, ?_⟩⟩
         | refine ⟨congrArg (T.int _) ?_, ?_⟩
         | exact trivial
         | (with_reducible rfl)
         | exact (rfl : (0 : Int) = ((0 : Nat) : Int))
         | exact w64_nat arith
         | refine bcase_T (by first | with_reducible rfl | decide) ?_
         | refine bcase_F (by first | with_reducible rfl | decide) ?_
         | refine bcase_dec (fun _ => ?_) (fun _ => ?_)
         | refine bcase_not ?_
         | refine bcase_intro (fun _ => ?_) (fun _ => ?_)
         | refine ⟨(by with_reducible rfl), ?_⟩
         | refine ⟨congrArg vi ?_, ?_⟩
         | refine ⟨congrArg vb ?_, ?_⟩
         | refine ⟨rfl, ?_⟩
         | refine ⟨(by kernel_rfl : drawOK _ = true), ?_⟩
         | refine Or.inl ?_
         | refine ⟨⟨congrArg (T.int _) ?_, rfl⟩, ?_⟩
         | refine ⟨⟨congrArg T.bool ?_, rfl⟩, ?_⟩
         | refine ⟨⟨rfl, Nat.le_of_ble_eq_true rfl⟩, ?_⟩
         | refine ⟨⟨rfl, rfl⟩, ?_⟩
         | refine ⟨⟨rfl, (by decide)⟩, ?_⟩
         | refine ⟨⟨rfl, ?_⟩, ?_⟩
         | refine ⟨Or.inr rfl, ?_⟩
         | refine ⟨Or.inl rfl, ?_⟩
         | refine ⟨⟨⟨rfl, rfl, rfl⟩, ?_⟩, ?_⟩
         | refine ⟨_, _, rfl, row_get _ _ arith, rfl, ?_⟩
         | refine ⟨Or.inr (by repeat (first | exact trivial | refine ⟨rfl, ?_⟩)), ?_⟩
         | refine ⟨(?_ : _ = ([] : List (List T))), ?_⟩
         | fail))
  · rw [cntAt_zero]; omega
  all_goals first
    | (have h0 := lt_mkr (by assumption); have h1 := cntAt_succ (x.map eI) (i := i) (by rw [List.length_map]; exact h0); have h2 := cntAt_le (x.map eI) (i + 1); rw [map_get] at h1; simp only [eI, cntCells, cntT, Nat.add_zero] at h1; rw [h1]; (try simp only [cntT]); (try simp (disch := omega) only [w64_ok]); omega)
    | (have h0 := ge_mkr (by assumption); rw [cntAt_all _ (by rw [List.length_map]; exact h0)])
theorem c_heldWorld (x : DWorld) (k : Int) (hx : DWorld.sz x ≤ 4611686018427387904) (hk : 0 ≤ k ∧ ((((k + cntRows (x.Servers.map DServer.e)) + cntRows (x.Devices.map DDevice.e)) + cntRows (x.Archive.Rounds.map DArchivedRound.e)) + cntRows (x.Replaced.map eI)) ≤ 4611686018427387904) : FnAt Tryz.prog 22 [.agg [I x.Rows, .lst (mkRows (x.Servers.map DServer.e) k), .lst (mkRows (x.Devices.map DDevice.e) (k + cntRows (x.Servers.map DServer.e))), I x.Archive.Rows, .lst (mkRows (x.Archive.Rounds.map DArchivedRound.e) ((k + cntRows (x.Servers.map DServer.e)) + cntRows (x.Devices.map DDevice.e))), I x.Master, I x.Seed, I x.Round, .lst (mkRows (x.Replaced.map eI) (((k + cntRows (x.Servers.map DServer.e)) + cntRows (x.Devices.map DDevice.e)) + cntRows (x.Archive.Rounds.map DArchivedRound.e))), I x.Cancelled], .one (I k)] [.one (.s (I ((((k + cntRows (x.Servers.map DServer.e)) + cntRows (x.Devices.map DDevice.e)) + cntRows (x.Archive.Rounds.map DArchivedRound.e)) + cntRows (x.Replaced.map eI))))] := by
  refine fn_of Tryz.func22 rfl (by kernel_rfl) rfl ?_
  all_goals repeat' (first
    | (with_reducible rfl)
    | (conv => whnf
       first
         | refine ⟨_, c_heldServerS _ _ (by simp only [DWorld.sz] at hx; omega) (by omega), ?_⟩
         | refine ⟨_, c_heldDeviceS _ _ (by simp only [DWorld.sz] at hx; omega) (by omega), ?_⟩
         | refine ⟨_, c_heldArchive _ _ (by simp only [DWorld.sz] at hx; omega) (by omega), ?_⟩
         | refine ⟨_, c_heldIntS _ _ (by simp only [DWorld.sz] at hx; omega) (by omega), ?_⟩
         | refine bcase_F (by rw [decide_eq_false_iff_not]; omega) ?_
         | exact trivial
         | (with_reducible rfl)
         | exact (rfl : (0 : Int) = ((0 : Nat) : Int))
         | exact w64_nat arith
         | refine bcase_T (by first | with_reducible rfl | decide) ?_
         | refine bcase_F (by first | with_reducible rfl | decide) ?_
         | refine bcase_dec (fun _ => ?_) (fun _ => ?_)
         | refine bcase_not ?_
         | refine bcase_intro (fun _ => ?_) (fun _ => ?_)
         | refine ⟨(by with_reducible rfl), ?_⟩
         | refine ⟨congrArg vi ?_, ?_⟩
         | refine ⟨congrArg vb ?_, ?_⟩
         | refine ⟨rfl, ?_⟩
         | refine ⟨(by kernel_rfl : drawOK _ = true), ?_⟩
         | refine Or.inl ?_
         | refine ⟨⟨congrArg (T.int _) ?_, rfl⟩, ?_⟩
         | refine ⟨⟨congrArg T.bool ?_, rfl⟩, ?_⟩
         | refine ⟨⟨rfl, Nat.le_of_ble_eq_true rfl⟩, ?_⟩
         | refine ⟨⟨rfl, rfl⟩, ?_⟩
         | refine ⟨⟨rfl, (by decide)⟩, ?_⟩
         | refine ⟨⟨rfl, ?_⟩, ?_⟩
         | refine ⟨Or.inr rfl, ?_⟩
         | refine ⟨Or.inl rfl, ?_⟩
         | refine ⟨⟨⟨rfl, rfl, rfl⟩, ?_⟩, ?_⟩
         | refine ⟨_, _, rfl, row_get _ _ arith, rfl, ?_⟩
         | refine ⟨Or.inr (by repeat (first | exact trivial | refine ⟨rfl, ?_⟩)), ?_⟩
         | refine ⟨(?_ : _ = ([] : List (List T))), ?_⟩
         | fail))
  all_goals rfl
end Go.Proofs.YtdbgmncapignoaaGreat
