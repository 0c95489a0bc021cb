/-
  Contracts of the statements' own helpers, written by a program of ours by type.
  Conditions: none.
-/
import Derived.Test.YtdbgmncapignoaaGreatFnI
namespace Go.Proofs.YtdbgmncapignoaaGreat
set_option maxHeartbeats 4000000
set_option maxRecDepth 20000
open Go.Vm Go.RowKit
attribute [local irreducible] FnAt MutAt InAt JAt CurAt

def mid (r : List (List T)) (k : Int) (i : Nat) (c : List T) : List (List T) := (mkAt r k i).set i c
theorem mid_in (r : List (List T)) (k : Int) (i : Nat) (c : List T) : (mkAt r k i).set i c = mid r k i c := rfl
theorem mid_set (r : List (List T)) (k : Int) (i : Nat) (c d : List T) : (mid r k i c).set i d = mid r k i d := by unfold mid; rw [List.set_set]
theorem mid_len (r : List (List T)) (k : Int) (i : Nat) (c : List T) : (mid r k i c).length = r.length := by unfold mid; rw [List.length_set, mkAt_len]
theorem mid_get {α : Type} {f : α → List T} {xs : List α} {k : Int} {i : Nat} {c : List T} (h : i < xs.length) : (mid (xs.map f) k i c)[i]? = some c := by
  unfold mid; rw [List.getElem?_set_self (by rw [mkAt_len, List.length_map]; exact h)]
attribute [local irreducible] mid
theorem c_markDeviceS (x : (List DDevice)) (k : Int) (hx : (szL DDevice.sz) x ≤ 4611686018427387904) (hk : 0 ≤ k ∧ k + cntRows (x.map DDevice.e) ≤ 4611686018427387904) : MutAt Tryz.prog 45 (.one (.w 16 (x.map DDevice.e))) (.one (.w 16 (mkRows (x.map DDevice.e) k))) [.one (I k)] (I (k + cntRows (x.map DDevice.e))) := by
  have hl : x.length ≤ 4611686018427387904 := by first | exact hx | exact Nat.le_trans (szL_len _ _) hx
  refine mut_of Tryz.func45 rfl (by kernel_rfl) rfl (by simp [isScal]) rfl ?_
  all_goals repeat' (first
    | (with_reducible rfl)
    | (conv => whnf
       first
         | exact trivial
         | (with_reducible rfl)
         | exact (rfl : (0 : Int) = ((0 : Nat) : Int))
         | exact w64_nat arith
         | refine bcase_T (by first | with_reducible rfl | decide) ?_
         | refine bcase_F (by first | with_reducible rfl | decide) ?_
         | refine bcase_dec (fun _ => ?_) (fun _ => ?_)
         | refine bcase_not ?_
         | refine bcase_intro (fun _ => ?_) (fun _ => ?_)
         | refine ⟨(by with_reducible rfl), ?_⟩
         | refine ⟨congrArg vi ?_, ?_⟩
         | refine ⟨congrArg vb ?_, ?_⟩
         | refine ⟨rfl, ?_⟩
         | refine ⟨(by kernel_rfl : drawOK _ = true), ?_⟩
         | refine Or.inl ?_
         | refine ⟨⟨congrArg (T.int _) ?_, rfl⟩, ?_⟩
         | refine ⟨⟨congrArg T.bool ?_, rfl⟩, ?_⟩
         | refine ⟨⟨rfl, Nat.le_of_ble_eq_true rfl⟩, ?_⟩
         | refine ⟨⟨rfl, rfl⟩, ?_⟩
         | refine ⟨⟨rfl, (by decide)⟩, ?_⟩
         | refine ⟨⟨rfl, ?_⟩, ?_⟩
         | refine ⟨Or.inr rfl, ?_⟩
         | refine ⟨Or.inl rfl, ?_⟩
         | refine ⟨⟨⟨rfl, rfl, rfl⟩, ?_⟩, ?_⟩
         | refine ⟨_, _, rfl, row_get _ _ arith, rfl, ?_⟩
         | refine ⟨Or.inr (by repeat (first | exact trivial | refine ⟨rfl, ?_⟩)), ?_⟩
         | refine ⟨(?_ : _ = ([] : List (List T))), ?_⟩
         | fail))
  conv => whnf
  refine ⟨Nat, fun i => i ≤ x.length, fun i => ⟨[(0, .pin (.c (.ref 0))), (1, vi (k + cntAt (x.map DDevice.e) i)), (5, vi i)], [(0, .row true false 16 (mkAt (x.map DDevice.e) k i))], 1⟩, fun i => x.length - i, 0, Nat.zero_le _, ⟨[(0, some 0)], rfl, rfl, rfl, ?_, ?_⟩, fun i (hi : i ≤ x.length) => ?_⟩
  all_goals repeat' (first
    | (with_reducible rfl)
    | (conv => whnf
       first
         | refine Or.inr ?_
         | refine ⟨_, (by first | exact mid_get (lt_mkm (by assumption)) | exact set_get' (by simp only [List.length_set, mkAt_len, List.length_map]; exact lt_mkm (by assumption)) | exact mkAt_getm (lt_mkm (by assumption))), .one (.w 1 _), _, _, ⟨⟨rfl, rfl⟩, ⟨rfl, rfl⟩, (by intro r hr; obtain ⟨_, _, rfl⟩ := List.mem_map.1 hr; rfl)⟩, c_markByteSS _ _ (by have h0 := lt_mkm (by assumption); exact (by have h3 := szL_get DDevice.sz x h0; simp only [DDevice.sz, DClient.sz, DClient.sz] at h3; omega)) (by have h0 := lt_mkm (by assumption); have h1 := cntAt_succ (x.map DDevice.e) (i := i) (by rw [List.length_map]; exact h0); have h2 := cntAt_le (x.map DDevice.e) (i + 1); rw [map_get] at h1; simp only [DDevice.e, cntCells, cntT, Nat.add_zero] at h1; (try simp (disch := omega) only [w64_ok]); omega), ?_⟩
         | (refine ⟨i, rfl, (by simp only [List.length_set, mid_len, mkAt_len, List.length_map]; exact lt_mkm (by assumption)), ?_⟩; (try rw [mid_in]); (try rw [mid_set]); (try conv in (mid _ _ _ _) => (arg 4; repeat (whnf; arg 2))); (try conv in (filtD safeAV _ _) => repeat (whnf; arg 2)); (try simp (disch := (have h0 := lt_mkm (by assumption); have h1 := cntAt_succ (x.map DDevice.e) (i := i) (by rw [List.length_map]; exact h0); have h2 := cntAt_le (x.map DDevice.e) (i + 1); rw [map_get] at h1; simp only [DDevice.e, cntCells, cntT, Nat.add_zero] at h1; omega)) only [w64_ok]))
         | refine ⟨_, (by first | exact mid_get (lt_mkm (by assumption)) | exact set_get' (by simp only [List.length_set, mkAt_len, List.length_map]; exact lt_mkm (by assumption)) | exact mkAt_getm (lt_mkm (by assumption))), ⟨rfl, Nat.le_of_ble_eq_true rfl⟩, ?_⟩
         | refine ⟨i + 1, ⟨arith, arith⟩, ⟨[(0, some 0)], rfl, rfl, rfl, ?_, ?_⟩⟩
         | refine ⟨congrArg (T.int _) ?_, ?_⟩
         | refine ⟨congrArg (fun r => RV.one (.w _ r)) ?_, ?_⟩
         | exact trivial
         | (with_reducible rfl)
         | exact (rfl : (0 : Int) = ((0 : Nat) : Int))
         | exact w64_nat arith
         | refine bcase_T (by first | with_reducible rfl | decide) ?_
         | refine bcase_F (by first | with_reducible rfl | decide) ?_
         | refine bcase_dec (fun _ => ?_) (fun _ => ?_)
         | refine bcase_not ?_
         | refine bcase_intro (fun _ => ?_) (fun _ => ?_)
         | refine ⟨(by with_reducible rfl), ?_⟩
         | refine ⟨congrArg vi ?_, ?_⟩
         | refine ⟨congrArg vb ?_, ?_⟩
         | refine ⟨rfl, ?_⟩
         | refine ⟨(by kernel_rfl : drawOK _ = true), ?_⟩
         | refine Or.inl ?_
         | refine ⟨⟨congrArg (T.int _) ?_, rfl⟩, ?_⟩
         | refine ⟨⟨congrArg T.bool ?_, rfl⟩, ?_⟩
         | refine ⟨⟨rfl, Nat.le_of_ble_eq_true rfl⟩, ?_⟩
         | refine ⟨⟨rfl, rfl⟩, ?_⟩
         | refine ⟨⟨rfl, (by decide)⟩, ?_⟩
         | refine ⟨⟨rfl, ?_⟩, ?_⟩
         | refine ⟨Or.inr rfl, ?_⟩
         | refine ⟨Or.inl rfl, ?_⟩
         | refine ⟨⟨⟨rfl, rfl, rfl⟩, ?_⟩, ?_⟩
         | refine ⟨_, _, rfl, row_get _ _ arith, rfl, ?_⟩
         | refine ⟨Or.inr (by repeat (first | exact trivial | refine ⟨rfl, ?_⟩)), ?_⟩
         | refine ⟨(?_ : _ = ([] : List (List T))), ?_⟩
         | fail))
  · rw [cntAt_zero]; omega
  · exact (mkAt_zero _ _).symm
  all_goals first
    | (have h0 := lt_mkm (by assumption); have h1 := cntAt_succ (x.map DDevice.e) (i := i) (by rw [List.length_map]; exact h0); have h2 := cntAt_le (x.map DDevice.e) (i + 1); rw [map_get] at h1; simp only [DDevice.e, cntCells, cntT, Nat.add_zero] at h1; rw [h1]; (try simp (disch := omega) only [w64_ok]); omega)
    | (have h0 := lt_mkm (by assumption); have h1 := cntAt_succ (x.map DDevice.e) (i := i) (by rw [List.length_map]; exact h0); have h2 := cntAt_le (x.map DDevice.e) (i + 1); rw [map_get] at h1; simp only [DDevice.e, cntCells, cntT, Nat.add_zero] at h1; (try unfold mid); (try simp only [List.set_set]); rw [← mkAt_set _ _ (by rw [List.length_map]; exact h0), map_get]; congr 1 <;> (simp (disch := omega) only [DDevice.e, mkCells, mkT, cntT, w64_ok, List.take_zero, List.take_succ_cons, List.drop_zero, List.drop_succ_cons, List.nil_append, List.cons_append, List.length_cons, List.length_nil, Nat.zero_add, Nat.reduceAdd, eU, eI, eL]; try (first | rfl | (simp only [Int.add_assoc]; rfl))))
    | (have h0 := ge_mkm (by assumption); rw [cntAt_all _ (by rw [List.length_map]; exact h0)])
    | (have h0 := ge_mkm (by assumption); rw [mkAt_all _ _ (by rw [List.length_map]; exact h0)])
end Go.Proofs.YtdbgmncapignoaaGreat
