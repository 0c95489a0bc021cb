/-
  Contracts of the statements' own helpers, written by a program of ours by type.
  Conditions: none.
-/
import Derived.Test.YtcoipmjboiegoaaFnZ
namespace Go.Proofs.Ytcoipmjboiegoaa
set_option maxHeartbeats 4000000
set_option maxRecDepth 20000
open Go.Vm Go.RowKit
attribute [local irreducible] FnAt MutAt InAt JAt CurAt FnE CurE RegAt

theorem c_heldByteS (x : (List UInt8)) (k : Int) (hx : List.length x ≤ 4611686018427387904) (hk : 0 ≤ k ∧ k + cntRows (x.map eU) ≤ 4611686018427387904) : FnAt Try.prog 125 [.one (.lst (mkRows (x.map eU) k)), .one (I k)] [.one (.s (I (k + cntRows (x.map eU))))] := by
  have hl : x.length ≤ 4611686018427387904 := by first | exact hx | exact Nat.le_trans (szL_len _ _) hx
  refine fn_of Try.func125 rfl (by kernel_rfl) rfl ?_
  all_goals repeat' (first
    | (with_reducible rfl)
    | (conv => whnf
       first
         | exact trivial
         | (with_reducible rfl)
         | exact (rfl : (0 : Int) = ((0 : Nat) : Int))
         | exact w64_nat arith
         | refine bcase_T (by first | with_reducible rfl | decide) ?_
         | refine bcase_F (by first | with_reducible rfl | decide) ?_
         | refine bcase_dec (fun _ => ?_) (fun _ => ?_)
         | refine bcase_not ?_
         | refine bcase_intro (fun _ => ?_) (fun _ => ?_)
         | refine ⟨(by with_reducible rfl), ?_⟩
         | refine ⟨congrArg vi ?_, ?_⟩
         | refine ⟨congrArg vb ?_, ?_⟩
         | refine ⟨rfl, ?_⟩
         | refine ⟨(by kernel_rfl : drawOK _ = true), ?_⟩
         | refine Or.inl ?_
         | refine ⟨⟨congrArg (T.int _) ?_, rfl⟩, ?_⟩
         | refine ⟨⟨congrArg T.bool ?_, rfl⟩, ?_⟩
         | refine ⟨⟨rfl, Nat.le_of_ble_eq_true rfl⟩, ?_⟩
         | refine ⟨⟨rfl, rfl⟩, ?_⟩
         | refine ⟨⟨rfl, (by decide)⟩, ?_⟩
         | refine ⟨⟨rfl, ?_⟩, ?_⟩
         | refine ⟨Or.inr rfl, ?_⟩
         | refine ⟨Or.inl rfl, ?_⟩
         | refine ⟨⟨⟨rfl, rfl, rfl⟩, ?_⟩, ?_⟩
         | refine ⟨_, _, rfl, row_get _ _ arith, rfl, ?_⟩
         | refine ⟨Or.inr (by repeat (first | exact trivial | refine ⟨rfl, ?_⟩)), ?_⟩
         | refine ⟨(?_ : _ = ([] : List (List T))), ?_⟩
         | fail))
  conv => whnf
  refine ⟨Nat, fun i => i ≤ x.length, fun i => ⟨[(0, vl (mkRows (x.map eU) k)), (1, vi (k + cntAt (x.map eU) i)), (5, vi i)], [], 0⟩, fun i => x.length - i, 0, Nat.zero_le _, ⟨[], rfl, rfl, rfl, ?_, ?_⟩, fun i (hi : i ≤ x.length) => ?_⟩
  all_goals repeat' (first
    | (with_reducible rfl)
    | (conv => whnf
       first
         | refine ⟨i, _, rfl, mkRows_getm (lt_mkr (by assumption)), rfl, ?_⟩
         | refine bcase_F (by have h0 := lt_mkr (by assumption); have h1 := cntAt_succ (x.map eU) (i := i) (by rw [List.length_map]; exact h0); have h2 := cntAt_le (x.map eU) (i + 1); rw [map_get] at h1; simp only [eU, cntCells, cntT, Nat.add_zero] at h1; first | (refine bne_eq_false_iff_eq.2 ?_; first | rfl | (simp (disch := omega) only [w64_ok, cntT]; first | done | omega)) | (rw [decide_eq_false_iff_not]; simp (disch := omega) only [w64_ok, cntT]; omega) | (rw [decide_eq_false_iff_not]; omega)) ?_
         | refine ⟨i + 1, ⟨arith, arith⟩, ⟨[], rfl, rfl, rfl, ?_, ?_⟩⟩
         | refine ⟨congrArg (T.int _) ?_, ?_⟩
         | exact trivial
         | (with_reducible rfl)
         | exact (rfl : (0 : Int) = ((0 : Nat) : Int))
         | exact w64_nat arith
         | refine bcase_T (by first | with_reducible rfl | decide) ?_
         | refine bcase_F (by first | with_reducible rfl | decide) ?_
         | refine bcase_dec (fun _ => ?_) (fun _ => ?_)
         | refine bcase_not ?_
         | refine bcase_intro (fun _ => ?_) (fun _ => ?_)
         | refine ⟨(by with_reducible rfl), ?_⟩
         | refine ⟨congrArg vi ?_, ?_⟩
         | refine ⟨congrArg vb ?_, ?_⟩
         | refine ⟨rfl, ?_⟩
         | refine ⟨(by kernel_rfl : drawOK _ = true), ?_⟩
         | refine Or.inl ?_
         | refine ⟨⟨congrArg (T.int _) ?_, rfl⟩, ?_⟩
         | refine ⟨⟨congrArg T.bool ?_, rfl⟩, ?_⟩
         | refine ⟨⟨rfl, Nat.le_of_ble_eq_true rfl⟩, ?_⟩
         | refine ⟨⟨rfl, rfl⟩, ?_⟩
         | refine ⟨⟨rfl, (by decide)⟩, ?_⟩
         | refine ⟨⟨rfl, ?_⟩, ?_⟩
         | refine ⟨Or.inr rfl, ?_⟩
         | refine ⟨Or.inl rfl, ?_⟩
         | refine ⟨⟨⟨rfl, rfl, rfl⟩, ?_⟩, ?_⟩
         | refine ⟨_, _, rfl, row_get _ _ arith, rfl, ?_⟩
         | refine ⟨Or.inr (by repeat (first | exact trivial | refine ⟨rfl, ?_⟩)), ?_⟩
         | refine ⟨(?_ : _ = ([] : List (List T))), ?_⟩
         | fail))
  · rw [cntAt_zero]; omega
  all_goals first
    | (have h0 := lt_mkr (by assumption); have h1 := cntAt_succ (x.map eU) (i := i) (by rw [List.length_map]; exact h0); have h2 := cntAt_le (x.map eU) (i + 1); rw [map_get] at h1; simp only [eU, cntCells, cntT, Nat.add_zero] at h1; rw [h1]; (try simp only [cntT]); (try simp (disch := omega) only [w64_ok]); omega)
    | (have h0 := ge_mkr (by assumption); rw [cntAt_all _ (by rw [List.length_map]; exact h0)])
theorem c_heldByteSS (x : (List (List UInt8))) (k : Int) (hx : (szL List.length) x ≤ 4611686018427387904) (hk : 0 ≤ k ∧ k + cntRows (x.map (eL eU)) ≤ 4611686018427387904) : FnAt Try.prog 77 [.one (.lst (mkRows (x.map (eL eU)) k)), .one (I k)] [.one (.s (I (k + cntRows (x.map (eL eU)))))] := by
  have hl : x.length ≤ 4611686018427387904 := by first | exact hx | exact Nat.le_trans (szL_len _ _) hx
  refine fn_of Try.func77 rfl (by kernel_rfl) rfl ?_
  all_goals repeat' (first
    | (with_reducible rfl)
    | (conv => whnf
       first
         | exact trivial
         | (with_reducible rfl)
         | exact (rfl : (0 : Int) = ((0 : Nat) : Int))
         | exact w64_nat arith
         | refine bcase_T (by first | with_reducible rfl | decide) ?_
         | refine bcase_F (by first | with_reducible rfl | decide) ?_
         | refine bcase_dec (fun _ => ?_) (fun _ => ?_)
         | refine bcase_not ?_
         | refine bcase_intro (fun _ => ?_) (fun _ => ?_)
         | refine ⟨(by with_reducible rfl), ?_⟩
         | refine ⟨congrArg vi ?_, ?_⟩
         | refine ⟨congrArg vb ?_, ?_⟩
         | refine ⟨rfl, ?_⟩
         | refine ⟨(by kernel_rfl : drawOK _ = true), ?_⟩
         | refine Or.inl ?_
         | refine ⟨⟨congrArg (T.int _) ?_, rfl⟩, ?_⟩
         | refine ⟨⟨congrArg T.bool ?_, rfl⟩, ?_⟩
         | refine ⟨⟨rfl, Nat.le_of_ble_eq_true rfl⟩, ?_⟩
         | refine ⟨⟨rfl, rfl⟩, ?_⟩
         | refine ⟨⟨rfl, (by decide)⟩, ?_⟩
         | refine ⟨⟨rfl, ?_⟩, ?_⟩
         | refine ⟨Or.inr rfl, ?_⟩
         | refine ⟨Or.inl rfl, ?_⟩
         | refine ⟨⟨⟨rfl, rfl, rfl⟩, ?_⟩, ?_⟩
         | refine ⟨_, _, rfl, row_get _ _ arith, rfl, ?_⟩
         | refine ⟨Or.inr (by repeat (first | exact trivial | refine ⟨rfl, ?_⟩)), ?_⟩
         | refine ⟨(?_ : _ = ([] : List (List T))), ?_⟩
         | fail))
  conv => whnf
  refine ⟨Nat, fun i => i ≤ x.length, fun i => ⟨[(0, vl (mkRows (x.map (eL eU)) k)), (1, vi (k + cntAt (x.map (eL eU)) i)), (5, vi i)], [], 0⟩, fun i => x.length - i, 0, Nat.zero_le _, ⟨[], rfl, rfl, rfl, ?_, ?_⟩, fun i (hi : i ≤ x.length) => ?_⟩
  all_goals repeat' (first
    | (with_reducible rfl)
    | (conv => whnf
       first
         | refine ⟨i, _, rfl, mkRows_getm (lt_mkr (by assumption)), rfl, ?_⟩
         | refine bcase_F (by have h0 := lt_mkr (by assumption); have h1 := cntAt_succ (x.map (eL eU)) (i := i) (by rw [List.length_map]; exact h0); have h2 := cntAt_le (x.map (eL eU)) (i + 1); rw [map_get] at h1; simp only [eL, cntCells, cntT, Nat.add_zero] at h1; first | (refine bne_eq_false_iff_eq.2 ?_; first | rfl | (simp (disch := omega) only [w64_ok, cntT]; first | done | omega)) | (rw [decide_eq_false_iff_not]; simp (disch := omega) only [w64_ok, cntT]; omega) | (rw [decide_eq_false_iff_not]; omega)) ?_
         | refine ⟨_, held_cast (c_heldByteS _ _ (by have h0 := lt_mkr (by assumption); exact (Nat.le_trans (szL_get _ _ h0) hx)) (by have h0 := lt_mkr (by assumption); have h1 := cntAt_succ (x.map (eL eU)) (i := i) (by rw [List.length_map]; exact h0); have h2 := cntAt_le (x.map (eL eU)) (i + 1); rw [map_get] at h1; simp only [eL, cntCells, cntT, Nat.add_zero] at h1; (try simp only [cntT]); (try simp (disch := omega) only [w64_ok]); omega)) (by first | rfl | (have h0 := lt_mkr (by assumption); have h1 := cntAt_succ (x.map (eL eU)) (i := i) (by rw [List.length_map]; exact h0); have h2 := cntAt_le (x.map (eL eU)) (i + 1); rw [map_get] at h1; simp only [eL, cntCells, cntT, Nat.add_zero] at h1; (try simp only [cntT]); (try simp (disch := omega) only [w64_ok]); omega)), ?_⟩
         | refine ⟨i + 1, ⟨arith, arith⟩, ⟨[], rfl, rfl, rfl, ?_, ?_⟩⟩
         | refine ⟨congrArg (T.int _) ?_, ?_⟩
         | exact trivial
         | (with_reducible rfl)
         | exact (rfl : (0 : Int) = ((0 : Nat) : Int))
         | exact w64_nat arith
         | refine bcase_T (by first | with_reducible rfl | decide) ?_
         | refine bcase_F (by first | with_reducible rfl | decide) ?_
         | refine bcase_dec (fun _ => ?_) (fun _ => ?_)
         | refine bcase_not ?_
         | refine bcase_intro (fun _ => ?_) (fun _ => ?_)
         | refine ⟨(by with_reducible rfl), ?_⟩
         | refine ⟨congrArg vi ?_, ?_⟩
         | refine ⟨congrArg vb ?_, ?_⟩
         | refine ⟨rfl, ?_⟩
         | refine ⟨(by kernel_rfl : drawOK _ = true), ?_⟩
         | refine Or.inl ?_
         | refine ⟨⟨congrArg (T.int _) ?_, rfl⟩, ?_⟩
         | refine ⟨⟨congrArg T.bool ?_, rfl⟩, ?_⟩
         | refine ⟨⟨rfl, Nat.le_of_ble_eq_true rfl⟩, ?_⟩
         | refine ⟨⟨rfl, rfl⟩, ?_⟩
         | refine ⟨⟨rfl, (by decide)⟩, ?_⟩
         | refine ⟨⟨rfl, ?_⟩, ?_⟩
         | refine ⟨Or.inr rfl, ?_⟩
         | refine ⟨Or.inl rfl, ?_⟩
         | refine ⟨⟨⟨rfl, rfl, rfl⟩, ?_⟩, ?_⟩
         | refine ⟨_, _, rfl, row_get _ _ arith, rfl, ?_⟩
         | refine ⟨Or.inr (by repeat (first | exact trivial | refine ⟨rfl, ?_⟩)), ?_⟩
         | refine ⟨(?_ : _ = ([] : List (List T))), ?_⟩
         | fail))
  · rw [cntAt_zero]; omega
  all_goals first
    | (have h0 := lt_mkr (by assumption); have h1 := cntAt_succ (x.map (eL eU)) (i := i) (by rw [List.length_map]; exact h0); have h2 := cntAt_le (x.map (eL eU)) (i + 1); rw [map_get] at h1; simp only [eL, cntCells, cntT, Nat.add_zero] at h1; rw [h1]; (try simp only [cntT]); (try simp (disch := omega) only [w64_ok]); omega)
    | (have h0 := ge_mkr (by assumption); rw [cntAt_all _ (by rw [List.length_map]; exact h0)])
theorem c_heldDatabaseS (x : (List DDatabase)) (k : Int) (hx : (szL DDatabase.sz) x ≤ 4611686018427387904) (hk : 0 ≤ k ∧ k + cntRows (x.map DDatabase.e) ≤ 4611686018427387904) : FnAt Try.prog 26 [.one (.lst (mkRows (x.map DDatabase.e) k)), .one (I k)] [.one (.s (I (k + cntRows (x.map DDatabase.e))))] := by
  have hl : x.length ≤ 4611686018427387904 := by first | exact hx | exact Nat.le_trans (szL_len _ _) hx
  refine fn_of Try.func26 rfl (by kernel_rfl) rfl ?_
  all_goals repeat' (first
    | (with_reducible rfl)
    | (conv => whnf
       first
         | exact trivial
         | (with_reducible rfl)
         | exact (rfl : (0 : Int) = ((0 : Nat) : Int))
         | exact w64_nat arith
         | refine bcase_T (by first | with_reducible rfl | decide) ?_
         | refine bcase_F (by first | with_reducible rfl | decide) ?_
         | refine bcase_dec (fun _ => ?_) (fun _ => ?_)
         | refine bcase_not ?_
         | refine bcase_intro (fun _ => ?_) (fun _ => ?_)
         | refine ⟨(by with_reducible rfl), ?_⟩
         | refine ⟨congrArg vi ?_, ?_⟩
         | refine ⟨congrArg vb ?_, ?_⟩
         | refine ⟨rfl, ?_⟩
         | refine ⟨(by kernel_rfl : drawOK _ = true), ?_⟩
         | refine Or.inl ?_
         | refine ⟨⟨congrArg (T.int _) ?_, rfl⟩, ?_⟩
         | refine ⟨⟨congrArg T.bool ?_, rfl⟩, ?_⟩
         | refine ⟨⟨rfl, Nat.le_of_ble_eq_true rfl⟩, ?_⟩
         | refine ⟨⟨rfl, rfl⟩, ?_⟩
         | refine ⟨⟨rfl, (by decide)⟩, ?_⟩
         | refine ⟨⟨rfl, ?_⟩, ?_⟩
         | refine ⟨Or.inr rfl, ?_⟩
         | refine ⟨Or.inl rfl, ?_⟩
         | refine ⟨⟨⟨rfl, rfl, rfl⟩, ?_⟩, ?_⟩
         | refine ⟨_, _, rfl, row_get _ _ arith, rfl, ?_⟩
         | refine ⟨Or.inr (by repeat (first | exact trivial | refine ⟨rfl, ?_⟩)), ?_⟩
         | refine ⟨(?_ : _ = ([] : List (List T))), ?_⟩
         | fail))
  conv => whnf
  refine ⟨Nat, fun i => i ≤ x.length, fun i => ⟨[(0, vl (mkRows (x.map DDatabase.e) k)), (1, vi (k + cntAt (x.map DDatabase.e) i)), (5, vi i)], [], 0⟩, fun i => x.length - i, 0, Nat.zero_le _, ⟨[], rfl, rfl, rfl, ?_, ?_⟩, fun i (hi : i ≤ x.length) => ?_⟩
  all_goals repeat' (first
    | (with_reducible rfl)
    | (conv => whnf
       first
         | refine ⟨i, _, rfl, mkRows_getm (lt_mkr (by assumption)), rfl, ?_⟩
         | refine bcase_F (by have h0 := lt_mkr (by assumption); have h1 := cntAt_succ (x.map DDatabase.e) (i := i) (by rw [List.length_map]; exact h0); have h2 := cntAt_le (x.map DDatabase.e) (i + 1); rw [map_get] at h1; simp only [DDatabase.e, cntCells, cntT, Nat.add_zero] at h1; first | (refine bne_eq_false_iff_eq.2 ?_; first | rfl | (simp (disch := omega) only [w64_ok, cntT]; first | done | omega)) | (rw [decide_eq_false_iff_not]; simp (disch := omega) only [w64_ok, cntT]; omega) | (rw [decide_eq_false_iff_not]; omega)) ?_
         | refine ⟨_, held_cast (c_heldByteSS _ _ (by have h0 := lt_mkr (by assumption); exact (by have h3 := szL_get DDatabase.sz x h0; simp only [DDatabase.sz] at h3; omega)) (by have h0 := lt_mkr (by assumption); have h1 := cntAt_succ (x.map DDatabase.e) (i := i) (by rw [List.length_map]; exact h0); have h2 := cntAt_le (x.map DDatabase.e) (i + 1); rw [map_get] at h1; simp only [DDatabase.e, cntCells, cntT, Nat.add_zero] at h1; (try simp only [cntT]); (try simp (disch := omega) only [w64_ok]); omega)) (by first | rfl | (have h0 := lt_mkr (by assumption); have h1 := cntAt_succ (x.map DDatabase.e) (i := i) (by rw [List.length_map]; exact h0); have h2 := cntAt_le (x.map DDatabase.e) (i + 1); rw [map_get] at h1; simp only [DDatabase.e, cntCells, cntT, Nat.add_zero] at h1; (try simp only [cntT]); (try simp (disch := omega) only [w64_ok]); omega)), ?_⟩
         | refine ⟨i + 1, ⟨arith, arith⟩, ⟨[], rfl, rfl, rfl, ?_, ?_⟩⟩
         | refine ⟨congrArg (T.int _) ?_, ?_⟩
         | exact trivial
         | (with_reducible rfl)
         | exact (rfl : (0 : Int) = ((0 : Nat) : Int))
         | exact w64_nat arith
         | refine bcase_T (by first | with_reducible rfl | decide) ?_
         | refine bcase_F (by first | with_reducible rfl | decide) ?_
         | refine bcase_dec (fun _ => ?_) (fun _ => ?_)
         | refine bcase_not ?_
         | refine bcase_intro (fun _ => ?_) (fun _ => ?_)
         | refine ⟨(by with_reducible rfl), ?_⟩
         | refine ⟨congrArg vi ?_, ?_⟩
         | refine ⟨congrArg vb ?_, ?_⟩
         | refine ⟨rfl, ?_⟩
         | refine ⟨(by kernel_rfl : drawOK _ = true), ?_⟩
         | refine Or.inl ?_
         | refine ⟨⟨congrArg (T.int _) ?_, rfl⟩, ?_⟩
         | refine ⟨⟨congrArg T.bool ?_, rfl⟩, ?_⟩
         | refine ⟨⟨rfl, Nat.le_of_ble_eq_true rfl⟩, ?_⟩
         | refine ⟨⟨rfl, rfl⟩, ?_⟩
         | refine ⟨⟨rfl, (by decide)⟩, ?_⟩
         | refine ⟨⟨rfl, ?_⟩, ?_⟩
         | refine ⟨Or.inr rfl, ?_⟩
         | refine ⟨Or.inl rfl, ?_⟩
         | refine ⟨⟨⟨rfl, rfl, rfl⟩, ?_⟩, ?_⟩
         | refine ⟨_, _, rfl, row_get _ _ arith, rfl, ?_⟩
         | refine ⟨Or.inr (by repeat (first | exact trivial | refine ⟨rfl, ?_⟩)), ?_⟩
         | refine ⟨(?_ : _ = ([] : List (List T))), ?_⟩
         | fail))
  · rw [cntAt_zero]; omega
  all_goals first
    | (have h0 := lt_mkr (by assumption); have h1 := cntAt_succ (x.map DDatabase.e) (i := i) (by rw [List.length_map]; exact h0); have h2 := cntAt_le (x.map DDatabase.e) (i + 1); rw [map_get] at h1; simp only [DDatabase.e, cntCells, cntT, Nat.add_zero] at h1; rw [h1]; (try simp only [cntT]); (try simp (disch := omega) only [w64_ok]); omega)
    | (have h0 := ge_mkr (by assumption); rw [cntAt_all _ (by rw [List.length_map]; exact h0)])
theorem c_heldIntS (x : (List Int)) (k : Int) (hx : List.length x ≤ 4611686018427387904) (hk : 0 ≤ k ∧ k + cntRows (x.map eI) ≤ 4611686018427387904) : FnAt Try.prog 49 [.one (.lst (mkRows (x.map eI) k)), .one (I k)] [.one (.s (I (k + cntRows (x.map eI))))] := by
  have hl : x.length ≤ 4611686018427387904 := by first | exact hx | exact Nat.le_trans (szL_len _ _) hx
  refine fn_of Try.func49 rfl (by kernel_rfl) rfl ?_
  all_goals repeat' (first
    | (with_reducible rfl)
    | (conv => whnf
       first
         | exact trivial
         | (with_reducible rfl)
         | exact (rfl : (0 : Int) = ((0 : Nat) : Int))
         | exact w64_nat arith
         | refine bcase_T (by first | with_reducible rfl | decide) ?_
         | refine bcase_F (by first | with_reducible rfl | decide) ?_
         | refine bcase_dec (fun _ => ?_) (fun _ => ?_)
         | refine bcase_not ?_
         | refine bcase_intro (fun _ => ?_) (fun _ => ?_)
         | refine ⟨(by with_reducible rfl), ?_⟩
         | refine ⟨congrArg vi ?_, ?_⟩
         | refine ⟨congrArg vb ?_, ?_⟩
         | refine ⟨rfl, ?_⟩
         | refine ⟨(by kernel_rfl : drawOK _ = true), ?_⟩
         | refine Or.inl ?_
         | refine ⟨⟨congrArg (T.int _) ?_, rfl⟩, ?_⟩
         | refine ⟨⟨congrArg T.bool ?_, rfl⟩, ?_⟩
         | refine ⟨⟨rfl, Nat.le_of_ble_eq_true rfl⟩, ?_⟩
         | refine ⟨⟨rfl, rfl⟩, ?_⟩
         | refine ⟨⟨rfl, (by decide)⟩, ?_⟩
         | refine ⟨⟨rfl, ?_⟩, ?_⟩
         | refine ⟨Or.inr rfl, ?_⟩
         | refine ⟨Or.inl rfl, ?_⟩
         | refine ⟨⟨⟨rfl, rfl, rfl⟩, ?_⟩, ?_⟩
         | refine ⟨_, _, rfl, row_get _ _ arith, rfl, ?_⟩
         | refine ⟨Or.inr (by repeat (first | exact trivial | refine ⟨rfl, ?_⟩)), ?_⟩
         | refine ⟨(?_ : _ = ([] : List (List T))), ?_⟩
         | fail))
  conv => whnf
  refine ⟨Nat, fun i => i ≤ x.length, fun i => ⟨[(0, vl (mkRows (x.map eI) k)), (1, vi (k + cntAt (x.map eI) i)), (5, vi i)], [], 0⟩, fun i => x.length - i, 0, Nat.zero_le _, ⟨[], rfl, rfl, rfl, ?_, ?_⟩, fun i (hi : i ≤ x.length) => ?_⟩
  all_goals repeat' (first
    | (with_reducible rfl)
    | (conv => whnf
       first
         | refine ⟨i, _, rfl, mkRows_getm (lt_mkr (by assumption)), rfl, ?_⟩
         | refine bcase_F (by have h0 := lt_mkr (by assumption); have h1 := cntAt_succ (x.map eI) (i := i) (by rw [List.length_map]; exact h0); have h2 := cntAt_le (x.map eI) (i + 1); rw [map_get] at h1; simp only [eI, cntCells, cntT, Nat.add_zero] at h1; first | (refine bne_eq_false_iff_eq.2 ?_; first | rfl | (simp (disch := omega) only [w64_ok, cntT]; first | done | omega)) | (rw [decide_eq_false_iff_not]; simp (disch := omega) only [w64_ok, cntT]; omega) | (rw [decide_eq_false_iff_not]; omega)) ?_
         | refine ⟨i + 1, ⟨arith, arith⟩, ⟨[], rfl, rfl, rfl, ?_, ?_⟩⟩
         | refine ⟨congrArg (T.int _) ?_, ?_⟩
         | exact trivial
         | (with_reducible rfl)
         | exact (rfl : (0 : Int) = ((0 : Nat) : Int))
         | exact w64_nat arith
         | refine bcase_T (by first | with_reducible rfl | decide) ?_
         | refine bcase_F (by first | with_reducible rfl | decide) ?_
         | refine bcase_dec (fun _ => ?_) (fun _ => ?_)
         | refine bcase_not ?_
         | refine bcase_intro (fun _ => ?_) (fun _ => ?_)
         | refine ⟨(by with_reducible rfl), ?_⟩
         | refine ⟨congrArg vi ?_, ?_⟩
         | refine ⟨congrArg vb ?_, ?_⟩
         | refine ⟨rfl, ?_⟩
         | refine ⟨(by kernel_rfl : drawOK _ = true), ?_⟩
         | refine Or.inl ?_
         | refine ⟨⟨congrArg (T.int _) ?_, rfl⟩, ?_⟩
         | refine ⟨⟨congrArg T.bool ?_, rfl⟩, ?_⟩
         | refine ⟨⟨rfl, Nat.le_of_ble_eq_true rfl⟩, ?_⟩
         | refine ⟨⟨rfl, rfl⟩, ?_⟩
         | refine ⟨⟨rfl, (by decide)⟩, ?_⟩
         | refine ⟨⟨rfl, ?_⟩, ?_⟩
         | refine ⟨Or.inr rfl, ?_⟩
         | refine ⟨Or.inl rfl, ?_⟩
         | refine ⟨⟨⟨rfl, rfl, rfl⟩, ?_⟩, ?_⟩
         | refine ⟨_, _, rfl, row_get _ _ arith, rfl, ?_⟩
         | refine ⟨Or.inr (by repeat (first | exact trivial | refine ⟨rfl, ?_⟩)), ?_⟩
         | refine ⟨(?_ : _ = ([] : List (List T))), ?_⟩
         | fail))
  · rw [cntAt_zero]; omega
  all_goals first
    | (have h0 := lt_mkr (by assumption); have h1 := cntAt_succ (x.map eI) (i := i) (by rw [List.length_map]; exact h0); have h2 := cntAt_le (x.map eI) (i + 1); rw [map_get] at h1; simp only [eI, cntCells, cntT, Nat.add_zero] at h1; rw [h1]; (try simp only [cntT]); (try simp (disch := omega) only [w64_ok]); omega)
    | (have h0 := ge_mkr (by assumption); rw [cntAt_all _ (by rw [List.length_map]; exact h0)])
end Go.Proofs.Ytcoipmjboiegoaa
