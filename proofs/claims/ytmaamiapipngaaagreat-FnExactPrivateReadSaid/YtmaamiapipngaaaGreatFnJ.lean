/-
  Contracts of the statements' own helpers, written by a program of ours by type.
  Conditions: none.
-/
import Derived.Test.YtmaamiapipngaaaGreatFnZ
namespace Go.Proofs.YtmaamiapipngaaaGreat
set_option maxHeartbeats 4000000
set_option maxRecDepth 20000
open Go.Vm Go.RowKit
attribute [local irreducible] FnAt MutAt InAt JAt CurAt FnE CurE RegAt

theorem c_heldByteS (x : (List UInt8)) (k : Int) (hx : List.length x ≤ 4611686018427387904) (hk : 0 ≤ k ∧ k + cntRows (x.map eU) ≤ 4611686018427387904) : FnAt Tryz.prog 12 [.one (.lst (mkRows (x.map eU) k)), .one (I k)] [.one (.s (I (k + cntRows (x.map eU))))] := by
  have hl : x.length ≤ 4611686018427387904 := by first | exact hx | exact Nat.le_trans (szL_len _ _) hx
  refine fn_of Tryz.func12 rfl (by kernel_rfl) rfl ?_
  all_goals repeat' (first | (with_reducible rfl) | ((conv => whnf); first | exact trivial | (with_reducible rfl) | exact (rfl : (0 : Int) = ((0 : Nat) : Int)) | exact w64_nat arith | refine bcase_T (by first | with_reducible rfl | decide) ?_ | refine bcase_F (by first | with_reducible rfl | decide) ?_ | refine bcase_dec (fun _ => ?_) (fun _ => ?_) | refine bcase_not ?_ | refine bcase_intro (fun _ => ?_) (fun _ => ?_) | refine ⟨(by with_reducible rfl), ?_⟩ | refine ⟨congrArg vi ?_, ?_⟩ | refine ⟨congrArg vb ?_, ?_⟩ | refine ⟨rfl, ?_⟩ | refine ⟨(by kernel_rfl : drawOK _ = true), ?_⟩ | refine Or.inl ?_ | refine ⟨⟨congrArg (T.int _) ?_, rfl⟩, ?_⟩ | refine ⟨⟨congrArg T.bool ?_, rfl⟩, ?_⟩ | refine ⟨⟨rfl, Nat.le_of_ble_eq_true rfl⟩, ?_⟩ | refine ⟨⟨rfl, rfl⟩, ?_⟩ | refine ⟨⟨rfl, (by decide)⟩, ?_⟩ | refine ⟨⟨rfl, ?_⟩, ?_⟩ | refine ⟨Or.inr rfl, ?_⟩ | refine ⟨Or.inl rfl, ?_⟩ | refine ⟨⟨⟨rfl, rfl, rfl⟩, ?_⟩, ?_⟩ | refine ⟨_, _, rfl, row_get _ _ arith, rfl, ?_⟩ | refine ⟨Or.inr (by repeat (first | exact trivial | refine ⟨rfl, ?_⟩)), ?_⟩ | refine ⟨(?_ : _ = ([] : List (List T))), ?_⟩ | fail))
  conv => whnf
  refine ⟨Nat, fun i => i ≤ x.length, fun i => ⟨[(0, vl (mkRows (x.map eU) k)), (1, vi (k + cntAt (x.map eU) i)), (5, vi i)], [], 0⟩, fun i => x.length - i, 0, Nat.zero_le _, ⟨[], rfl, rfl, rfl, ?_, ?_⟩, fun i (hi : i ≤ x.length) => ?_⟩
  all_goals repeat' (first | (with_reducible rfl) | ((conv => whnf); first | refine ⟨i, _, rfl, mkRows_getm (lt_mkr (by assumption)), rfl, ?_⟩ | refine bcase_F (by have h0 := lt_mkr (by assumption); have h1 := cntAt_succ (x.map eU) (i := i) (by rw [List.length_map]; exact h0); have h2 := cntAt_le (x.map eU) (i + 1); rw [map_get] at h1; simp only [eU, cntCells, cntT, Nat.add_zero] at h1; first | (refine bne_eq_false_iff_eq.2 ?_; first | rfl | (simp (disch := omega) only [w64_ok, cntT]; first | done | omega)) | (rw [decide_eq_false_iff_not]; simp (disch := omega) only [w64_ok, cntT]; omega) | (rw [decide_eq_false_iff_not]; omega)) ?_ | refine ⟨i + 1, ⟨arith, arith⟩, ⟨[], rfl, rfl, rfl, ?_, ?_⟩⟩ | refine ⟨congrArg (T.int _) ?_, ?_⟩ | exact trivial | (with_reducible rfl) | exact (rfl : (0 : Int) = ((0 : Nat) : Int)) | exact w64_nat arith | refine bcase_T (by first | with_reducible rfl | decide) ?_ | refine bcase_F (by first | with_reducible rfl | decide) ?_ | refine bcase_dec (fun _ => ?_) (fun _ => ?_) | refine bcase_not ?_ | refine bcase_intro (fun _ => ?_) (fun _ => ?_) | refine ⟨(by with_reducible rfl), ?_⟩ | refine ⟨congrArg vi ?_, ?_⟩ | refine ⟨congrArg vb ?_, ?_⟩ | refine ⟨rfl, ?_⟩ | refine ⟨(by kernel_rfl : drawOK _ = true), ?_⟩ | refine Or.inl ?_ | refine ⟨⟨congrArg (T.int _) ?_, rfl⟩, ?_⟩ | refine ⟨⟨congrArg T.bool ?_, rfl⟩, ?_⟩ | refine ⟨⟨rfl, Nat.le_of_ble_eq_true rfl⟩, ?_⟩ | refine ⟨⟨rfl, rfl⟩, ?_⟩ | refine ⟨⟨rfl, (by decide)⟩, ?_⟩ | refine ⟨⟨rfl, ?_⟩, ?_⟩ | refine ⟨Or.inr rfl, ?_⟩ | refine ⟨Or.inl rfl, ?_⟩ | refine ⟨⟨⟨rfl, rfl, rfl⟩, ?_⟩, ?_⟩ | refine ⟨_, _, rfl, row_get _ _ arith, rfl, ?_⟩ | refine ⟨Or.inr (by repeat (first | exact trivial | refine ⟨rfl, ?_⟩)), ?_⟩ | refine ⟨(?_ : _ = ([] : List (List T))), ?_⟩ | fail))
  · rw [cntAt_zero]; omega
  all_goals first
    | (have h0 := lt_mkr (by assumption); have h1 := cntAt_succ (x.map eU) (i := i) (by rw [List.length_map]; exact h0); have h2 := cntAt_le (x.map eU) (i + 1); rw [map_get] at h1; simp only [eU, cntCells, cntT, Nat.add_zero] at h1; rw [h1]; (try simp only [cntT]); (try simp (disch := omega) only [w64_ok]); omega)
    | (have h0 := ge_mkr (by assumption); rw [cntAt_all _ (by rw [List.length_map]; exact h0)])
end Go.Proofs.YtmaamiapipngaaaGreat
