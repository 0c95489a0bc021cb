/-
  Contracts of the statements' own helpers, written by a program of ours by type.
  Conditions: none.
-/
import Derived.Test.YtcoipmjboiegoaaFnZ
namespace Go.Proofs.Ytcoipmjboiegoaa
set_option maxHeartbeats 4000000
set_option maxRecDepth 20000
open Go.Vm Go.RowKit
attribute [local irreducible] FnAt MutAt InAt JAt CurAt FnE CurE RegAt

theorem cnt_ByteS (x : (List UInt8)) : cntRows (x.map eU) ≤ 16 * x.length := cnt_flat (fun x => by simp only [eU, cntCells, cntT]; omega) x
theorem cnt_ByteSS (x : (List (List UInt8))) : cntRows (x.map (eL eU)) ≤ 16 * (szL List.length) x := cnt_list (fun x => by have h := cnt_ByteS x; simp only [eL, cntCells, cntT]; omega) x
theorem cnt_ReceivedShareS (x : (List DReceivedShare)) : cntRows (x.map DReceivedShare.e) ≤ 16 * (szL DReceivedShare.sz) x := cnt_list (fun x => by have h0 := cnt_ByteSS x.Share.Rows; simp only [DReceivedShare.e, cntCells, cntT, DReceivedShare.sz, DDatabase.sz]; omega) x
theorem cnt_ServerS (x : (List DServer)) : cntRows (x.map DServer.e) ≤ 16 * (szL DServer.sz) x := cnt_list (fun x => by have h0 := cnt_ReceivedShareS x.Received; simp only [DServer.e, cntCells, cntT, DServer.sz]; omega) x
theorem c_markByteS (x : (List UInt8)) (k : Int) (hx : List.length x ≤ 4611686018427387904) (hk : 0 ≤ k ∧ k + cntRows (x.map eU) ≤ 4611686018427387904) : MutAt Try.prog 109 (.one (.w 1 (x.map eU))) (.one (.w 1 (mkRows (x.map eU) k))) [.one (I k)] (I (k + cntRows (x.map eU))) := by
  have hl : x.length ≤ 4611686018427387904 := by first | exact hx | exact Nat.le_trans (szL_len _ _) hx
  refine mut_of Try.func109 rfl (by kernel_rfl) rfl (by simp [isScal]) rfl ?_
  all_goals repeat' (first
    | (with_reducible rfl)
    | (conv => whnf
       first
         | exact trivial
         | (with_reducible rfl)
         | exact (rfl : (0 : Int) = ((0 : Nat) : Int))
         | exact w64_nat arith
         | refine bcase_T (by first | with_reducible rfl | decide) ?_
         | refine bcase_F (by first | with_reducible rfl | decide) ?_
         | refine bcase_dec (fun _ => ?_) (fun _ => ?_)
         | refine bcase_not ?_
         | refine bcase_intro (fun _ => ?_) (fun _ => ?_)
         | refine ⟨(by with_reducible rfl), ?_⟩
         | refine ⟨congrArg vi ?_, ?_⟩
         | refine ⟨congrArg vb ?_, ?_⟩
         | refine ⟨rfl, ?_⟩
         | refine ⟨(by kernel_rfl : drawOK _ = true), ?_⟩
         | refine Or.inl ?_
         | refine ⟨⟨congrArg (T.int _) ?_, rfl⟩, ?_⟩
         | refine ⟨⟨congrArg T.bool ?_, rfl⟩, ?_⟩
         | refine ⟨⟨rfl, Nat.le_of_ble_eq_true rfl⟩, ?_⟩
         | refine ⟨⟨rfl, rfl⟩, ?_⟩
         | refine ⟨⟨rfl, (by decide)⟩, ?_⟩
         | refine ⟨⟨rfl, ?_⟩, ?_⟩
         | refine ⟨Or.inr rfl, ?_⟩
         | refine ⟨Or.inl rfl, ?_⟩
         | refine ⟨⟨⟨rfl, rfl, rfl⟩, ?_⟩, ?_⟩
         | refine ⟨_, _, rfl, row_get _ _ arith, rfl, ?_⟩
         | refine ⟨Or.inr (by repeat (first | exact trivial | refine ⟨rfl, ?_⟩)), ?_⟩
         | refine ⟨(?_ : _ = ([] : List (List T))), ?_⟩
         | fail))
  conv => whnf
  refine ⟨Nat, fun i => i ≤ x.length, fun i => ⟨[(0, .pin (.c (.ref 0))), (1, vi (k + cntAt (x.map eU) i)), (5, vi i)], [(0, .row true false 1 (mkAt (x.map eU) k i))], 1⟩, fun i => x.length - i, 0, Nat.zero_le _, ⟨[(0, some 0)], rfl, rfl, rfl, ?_, ?_⟩, fun i (hi : i ≤ x.length) => ?_⟩
  all_goals repeat' (first
    | (with_reducible rfl)
    | (conv => whnf
       first
         | refine Or.inr ?_
         | refine ⟨i, rfl, (by simp only [List.length_set, mkAt_len, List.length_map]; exact lt_mkm (by assumption)), ?_⟩
         | refine ⟨_, (by first | exact mid_get (lt_mkm (by assumption)) | exact set_get' (by simp only [List.length_set, mkAt_len, List.length_map]; exact lt_mkm (by assumption)) | exact mkAt_getm (lt_mkm (by assumption))), ⟨rfl, Nat.le_of_ble_eq_true rfl⟩, ?_⟩
         | refine ⟨i + 1, ⟨arith, arith⟩, ⟨[(0, some 0)], rfl, rfl, rfl, ?_, ?_⟩⟩
         | refine ⟨congrArg (T.int _) ?_, ?_⟩
         | refine ⟨congrArg (fun r => RV.one (.w _ r)) ?_, ?_⟩
         | exact trivial
         | (with_reducible rfl)
         | exact (rfl : (0 : Int) = ((0 : Nat) : Int))
         | exact w64_nat arith
         | refine bcase_T (by first | with_reducible rfl | decide) ?_
         | refine bcase_F (by first | with_reducible rfl | decide) ?_
         | refine bcase_dec (fun _ => ?_) (fun _ => ?_)
         | refine bcase_not ?_
         | refine bcase_intro (fun _ => ?_) (fun _ => ?_)
         | refine ⟨(by with_reducible rfl), ?_⟩
         | refine ⟨congrArg vi ?_, ?_⟩
         | refine ⟨congrArg vb ?_, ?_⟩
         | refine ⟨rfl, ?_⟩
         | refine ⟨(by kernel_rfl : drawOK _ = true), ?_⟩
         | refine Or.inl ?_
         | refine ⟨⟨congrArg (T.int _) ?_, rfl⟩, ?_⟩
         | refine ⟨⟨congrArg T.bool ?_, rfl⟩, ?_⟩
         | refine ⟨⟨rfl, Nat.le_of_ble_eq_true rfl⟩, ?_⟩
         | refine ⟨⟨rfl, rfl⟩, ?_⟩
         | refine ⟨⟨rfl, (by decide)⟩, ?_⟩
         | refine ⟨⟨rfl, ?_⟩, ?_⟩
         | refine ⟨Or.inr rfl, ?_⟩
         | refine ⟨Or.inl rfl, ?_⟩
         | refine ⟨⟨⟨rfl, rfl, rfl⟩, ?_⟩, ?_⟩
         | refine ⟨_, _, rfl, row_get _ _ arith, rfl, ?_⟩
         | refine ⟨Or.inr (by repeat (first | exact trivial | refine ⟨rfl, ?_⟩)), ?_⟩
         | refine ⟨(?_ : _ = ([] : List (List T))), ?_⟩
         | fail))
  · rw [cntAt_zero]; omega
  · exact (mkAt_zero _ _).symm
  all_goals first
    | (have h0 := lt_mkm (by assumption); have h1 := cntAt_succ (x.map eU) (i := i) (by rw [List.length_map]; exact h0); have h2 := cntAt_le (x.map eU) (i + 1); rw [map_get] at h1; simp only [eU, cntCells, cntT, Nat.add_zero] at h1; rw [h1]; (try simp (disch := omega) only [w64_ok]); omega)
    | (have h0 := lt_mkm (by assumption); have h1 := cntAt_succ (x.map eU) (i := i) (by rw [List.length_map]; exact h0); have h2 := cntAt_le (x.map eU) (i + 1); rw [map_get] at h1; simp only [eU, cntCells, cntT, Nat.add_zero] at h1; (try unfold mid); (try simp only [List.set_set]); rw [← mkAt_set _ _ (by rw [List.length_map]; exact h0), map_get]; congr 1 <;> (simp (disch := omega) only [eU, mkCells, mkT, cntT, w64_ok, List.take_zero, List.take_succ_cons, List.drop_zero, List.drop_succ_cons, List.nil_append, List.cons_append, List.length_cons, List.length_nil, Nat.zero_add, Nat.reduceAdd, eU, eI, eL]; try (first | rfl | (simp only [Int.add_assoc]; rfl))))
    | (have h0 := ge_mkm (by assumption); rw [cntAt_all _ (by rw [List.length_map]; exact h0)])
    | (have h0 := ge_mkm (by assumption); rw [mkAt_all _ _ (by rw [List.length_map]; exact h0)])
theorem c_markByteSS (x : (List (List UInt8))) (k : Int) (hx : (szL List.length) x ≤ 4611686018427387904) (hk : 0 ≤ k ∧ k + cntRows (x.map (eL eU)) ≤ 4611686018427387904) : MutAt Try.prog 76 (.one (.w 1 (x.map (eL eU)))) (.one (.w 1 (mkRows (x.map (eL eU)) k))) [.one (I k)] (I (k + cntRows (x.map (eL eU)))) := by
  have hl : x.length ≤ 4611686018427387904 := by first | exact hx | exact Nat.le_trans (szL_len _ _) hx
  refine mut_of Try.func76 rfl (by kernel_rfl) rfl (by simp [isScal]) rfl ?_
  all_goals repeat' (first
    | (with_reducible rfl)
    | (conv => whnf
       first
         | exact trivial
         | (with_reducible rfl)
         | exact (rfl : (0 : Int) = ((0 : Nat) : Int))
         | exact w64_nat arith
         | refine bcase_T (by first | with_reducible rfl | decide) ?_
         | refine bcase_F (by first | with_reducible rfl | decide) ?_
         | refine bcase_dec (fun _ => ?_) (fun _ => ?_)
         | refine bcase_not ?_
         | refine bcase_intro (fun _ => ?_) (fun _ => ?_)
         | refine ⟨(by with_reducible rfl), ?_⟩
         | refine ⟨congrArg vi ?_, ?_⟩
         | refine ⟨congrArg vb ?_, ?_⟩
         | refine ⟨rfl, ?_⟩
         | refine ⟨(by kernel_rfl : drawOK _ = true), ?_⟩
         | refine Or.inl ?_
         | refine ⟨⟨congrArg (T.int _) ?_, rfl⟩, ?_⟩
         | refine ⟨⟨congrArg T.bool ?_, rfl⟩, ?_⟩
         | refine ⟨⟨rfl, Nat.le_of_ble_eq_true rfl⟩, ?_⟩
         | refine ⟨⟨rfl, rfl⟩, ?_⟩
         | refine ⟨⟨rfl, (by decide)⟩, ?_⟩
         | refine ⟨⟨rfl, ?_⟩, ?_⟩
         | refine ⟨Or.inr rfl, ?_⟩
         | refine ⟨Or.inl rfl, ?_⟩
         | refine ⟨⟨⟨rfl, rfl, rfl⟩, ?_⟩, ?_⟩
         | refine ⟨_, _, rfl, row_get _ _ arith, rfl, ?_⟩
         | refine ⟨Or.inr (by repeat (first | exact trivial | refine ⟨rfl, ?_⟩)), ?_⟩
         | refine ⟨(?_ : _ = ([] : List (List T))), ?_⟩
         | fail))
  conv => whnf
  refine ⟨Nat, fun i => i ≤ x.length, fun i => ⟨[(0, .pin (.c (.ref 0))), (1, vi (k + cntAt (x.map (eL eU)) i)), (5, vi i)], [(0, .row true false 1 (mkAt (x.map (eL eU)) k i))], 1⟩, fun i => x.length - i, 0, Nat.zero_le _, ⟨[(0, some 0)], rfl, rfl, rfl, ?_, ?_⟩, fun i (hi : i ≤ x.length) => ?_⟩
  all_goals repeat' (first
    | (with_reducible rfl)
    | (conv => whnf
       first
         | refine Or.inr ?_
         | refine ⟨_, (by first | exact mid_get (lt_mkm (by assumption)) | exact set_get' (by simp only [List.length_set, mkAt_len, List.length_map]; exact lt_mkm (by assumption)) | exact mkAt_getm (lt_mkm (by assumption))), .one (.w 1 _), _, _, ⟨⟨rfl, rfl⟩, ⟨rfl, rfl⟩, (by intro r hr; obtain ⟨_, _, rfl⟩ := List.mem_map.1 hr; rfl)⟩, c_markByteS _ _ (by have h0 := lt_mkm (by assumption); exact (Nat.le_trans (szL_get _ _ h0) hx)) (by have h0 := lt_mkm (by assumption); have h1 := cntAt_succ (x.map (eL eU)) (i := i) (by rw [List.length_map]; exact h0); have h2 := cntAt_le (x.map (eL eU)) (i + 1); rw [map_get] at h1; simp only [eL, cntCells, cntT, Nat.add_zero] at h1; (try simp (disch := omega) only [w64_ok]); omega), ?_⟩
         | refine ⟨i, rfl, (by simp only [List.length_set, mkAt_len, List.length_map]; exact lt_mkm (by assumption)), ?_⟩
         | refine ⟨_, (by first | exact mid_get (lt_mkm (by assumption)) | exact set_get' (by simp only [List.length_set, mkAt_len, List.length_map]; exact lt_mkm (by assumption)) | exact mkAt_getm (lt_mkm (by assumption))), ⟨rfl, Nat.le_of_ble_eq_true rfl⟩, ?_⟩
         | refine ⟨i + 1, ⟨arith, arith⟩, ⟨[(0, some 0)], rfl, rfl, rfl, ?_, ?_⟩⟩
         | refine ⟨congrArg (T.int _) ?_, ?_⟩
         | refine ⟨congrArg (fun r => RV.one (.w _ r)) ?_, ?_⟩
         | exact trivial
         | (with_reducible rfl)
         | exact (rfl : (0 : Int) = ((0 : Nat) : Int))
         | exact w64_nat arith
         | refine bcase_T (by first | with_reducible rfl | decide) ?_
         | refine bcase_F (by first | with_reducible rfl | decide) ?_
         | refine bcase_dec (fun _ => ?_) (fun _ => ?_)
         | refine bcase_not ?_
         | refine bcase_intro (fun _ => ?_) (fun _ => ?_)
         | refine ⟨(by with_reducible rfl), ?_⟩
         | refine ⟨congrArg vi ?_, ?_⟩
         | refine ⟨congrArg vb ?_, ?_⟩
         | refine ⟨rfl, ?_⟩
         | refine ⟨(by kernel_rfl : drawOK _ = true), ?_⟩
         | refine Or.inl ?_
         | refine ⟨⟨congrArg (T.int _) ?_, rfl⟩, ?_⟩
         | refine ⟨⟨congrArg T.bool ?_, rfl⟩, ?_⟩
         | refine ⟨⟨rfl, Nat.le_of_ble_eq_true rfl⟩, ?_⟩
         | refine ⟨⟨rfl, rfl⟩, ?_⟩
         | refine ⟨⟨rfl, (by decide)⟩, ?_⟩
         | refine ⟨⟨rfl, ?_⟩, ?_⟩
         | refine ⟨Or.inr rfl, ?_⟩
         | refine ⟨Or.inl rfl, ?_⟩
         | refine ⟨⟨⟨rfl, rfl, rfl⟩, ?_⟩, ?_⟩
         | refine ⟨_, _, rfl, row_get _ _ arith, rfl, ?_⟩
         | refine ⟨Or.inr (by repeat (first | exact trivial | refine ⟨rfl, ?_⟩)), ?_⟩
         | refine ⟨(?_ : _ = ([] : List (List T))), ?_⟩
         | fail))
  · rw [cntAt_zero]; omega
  · exact (mkAt_zero _ _).symm
  all_goals first
    | (have h0 := lt_mkm (by assumption); have h1 := cntAt_succ (x.map (eL eU)) (i := i) (by rw [List.length_map]; exact h0); have h2 := cntAt_le (x.map (eL eU)) (i + 1); rw [map_get] at h1; simp only [eL, cntCells, cntT, Nat.add_zero] at h1; rw [h1]; (try simp (disch := omega) only [w64_ok]); omega)
    | (have h0 := lt_mkm (by assumption); have h1 := cntAt_succ (x.map (eL eU)) (i := i) (by rw [List.length_map]; exact h0); have h2 := cntAt_le (x.map (eL eU)) (i + 1); rw [map_get] at h1; simp only [eL, cntCells, cntT, Nat.add_zero] at h1; (try unfold mid); (try simp only [List.set_set]); rw [← mkAt_set _ _ (by rw [List.length_map]; exact h0), map_get]; congr 1 <;> (simp (disch := omega) only [eL, mkCells, mkT, cntT, w64_ok, List.take_zero, List.take_succ_cons, List.drop_zero, List.drop_succ_cons, List.nil_append, List.cons_append, List.length_cons, List.length_nil, Nat.zero_add, Nat.reduceAdd, eU, eI, eL]; try (first | rfl | (simp only [Int.add_assoc]; rfl))))
    | (have h0 := ge_mkm (by assumption); rw [cntAt_all _ (by rw [List.length_map]; exact h0)])
    | (have h0 := ge_mkm (by assumption); rw [mkAt_all _ _ (by rw [List.length_map]; exact h0)])
theorem c_markReceivedShareS (x : (List DReceivedShare)) (k : Int) (hx : (szL DReceivedShare.sz) x ≤ 4611686018427387904) (hk : 0 ≤ k ∧ k + cntRows (x.map DReceivedShare.e) ≤ 4611686018427387904) : MutAt Try.prog 75 (.one (.w 2 (x.map DReceivedShare.e))) (.one (.w 2 (mkRows (x.map DReceivedShare.e) k))) [.one (I k)] (I (k + cntRows (x.map DReceivedShare.e))) := by
  have hl : x.length ≤ 4611686018427387904 := by first | exact hx | exact Nat.le_trans (szL_len _ _) hx
  refine mut_of Try.func75 rfl (by kernel_rfl) rfl (by simp [isScal]) rfl ?_
  all_goals repeat' (first
    | (with_reducible rfl)
    | (conv => whnf
       first
         | exact trivial
         | (with_reducible rfl)
         | exact (rfl : (0 : Int) = ((0 : Nat) : Int))
         | exact w64_nat arith
         | refine bcase_T (by first | with_reducible rfl | decide) ?_
         | refine bcase_F (by first | with_reducible rfl | decide) ?_
         | refine bcase_dec (fun _ => ?_) (fun _ => ?_)
         | refine bcase_not ?_
         | refine bcase_intro (fun _ => ?_) (fun _ => ?_)
         | refine ⟨(by with_reducible rfl), ?_⟩
         | refine ⟨congrArg vi ?_, ?_⟩
         | refine ⟨congrArg vb ?_, ?_⟩
         | refine ⟨rfl, ?_⟩
         | refine ⟨(by kernel_rfl : drawOK _ = true), ?_⟩
         | refine Or.inl ?_
         | refine ⟨⟨congrArg (T.int _) ?_, rfl⟩, ?_⟩
         | refine ⟨⟨congrArg T.bool ?_, rfl⟩, ?_⟩
         | refine ⟨⟨rfl, Nat.le_of_ble_eq_true rfl⟩, ?_⟩
         | refine ⟨⟨rfl, rfl⟩, ?_⟩
         | refine ⟨⟨rfl, (by decide)⟩, ?_⟩
         | refine ⟨⟨rfl, ?_⟩, ?_⟩
         | refine ⟨Or.inr rfl, ?_⟩
         | refine ⟨Or.inl rfl, ?_⟩
         | refine ⟨⟨⟨rfl, rfl, rfl⟩, ?_⟩, ?_⟩
         | refine ⟨_, _, rfl, row_get _ _ arith, rfl, ?_⟩
         | refine ⟨Or.inr (by repeat (first | exact trivial | refine ⟨rfl, ?_⟩)), ?_⟩
         | refine ⟨(?_ : _ = ([] : List (List T))), ?_⟩
         | fail))
  conv => whnf
  refine ⟨Nat, fun i => i ≤ x.length, fun i => ⟨[(0, .pin (.c (.ref 0))), (1, vi (k + cntAt (x.map DReceivedShare.e) i)), (5, vi i)], [(0, .row true false 2 (mkAt (x.map DReceivedShare.e) k i))], 1⟩, fun i => x.length - i, 0, Nat.zero_le _, ⟨[(0, some 0)], rfl, rfl, rfl, ?_, ?_⟩, fun i (hi : i ≤ x.length) => ?_⟩
  all_goals repeat' (first
    | (with_reducible rfl)
    | (conv => whnf
       first
         | refine Or.inr ?_
         | refine ⟨_, (by first | exact mid_get (lt_mkm (by assumption)) | exact set_get' (by simp only [List.length_set, mkAt_len, List.length_map]; exact lt_mkm (by assumption)) | exact mkAt_getm (lt_mkm (by assumption))), .one (.w 1 _), _, _, ⟨⟨rfl, rfl⟩, ⟨rfl, rfl⟩, (by intro r hr; obtain ⟨_, _, rfl⟩ := List.mem_map.1 hr; rfl)⟩, c_markByteSS _ _ (by have h0 := lt_mkm (by assumption); exact (by have h3 := szL_get DReceivedShare.sz x h0; simp only [DReceivedShare.sz, DDatabase.sz] at h3; omega)) (by have h0 := lt_mkm (by assumption); have h1 := cntAt_succ (x.map DReceivedShare.e) (i := i) (by rw [List.length_map]; exact h0); have h2 := cntAt_le (x.map DReceivedShare.e) (i + 1); rw [map_get] at h1; simp only [DReceivedShare.e, cntCells, cntT, Nat.add_zero] at h1; (try simp (disch := omega) only [w64_ok]); omega), ?_⟩
         | refine ⟨i, rfl, (by simp only [List.length_set, mkAt_len, List.length_map]; exact lt_mkm (by assumption)), ?_⟩
         | refine ⟨_, (by first | exact mid_get (lt_mkm (by assumption)) | exact set_get' (by simp only [List.length_set, mkAt_len, List.length_map]; exact lt_mkm (by assumption)) | exact mkAt_getm (lt_mkm (by assumption))), ⟨rfl, Nat.le_of_ble_eq_true rfl⟩, ?_⟩
         | refine ⟨i + 1, ⟨arith, arith⟩, ⟨[(0, some 0)], rfl, rfl, rfl, ?_, ?_⟩⟩
         | refine ⟨congrArg (T.int _) ?_, ?_⟩
         | refine ⟨congrArg (fun r => RV.one (.w _ r)) ?_, ?_⟩
         | exact trivial
         | (with_reducible rfl)
         | exact (rfl : (0 : Int) = ((0 : Nat) : Int))
         | exact w64_nat arith
         | refine bcase_T (by first | with_reducible rfl | decide) ?_
         | refine bcase_F (by first | with_reducible rfl | decide) ?_
         | refine bcase_dec (fun _ => ?_) (fun _ => ?_)
         | refine bcase_not ?_
         | refine bcase_intro (fun _ => ?_) (fun _ => ?_)
         | refine ⟨(by with_reducible rfl), ?_⟩
         | refine ⟨congrArg vi ?_, ?_⟩
         | refine ⟨congrArg vb ?_, ?_⟩
         | refine ⟨rfl, ?_⟩
         | refine ⟨(by kernel_rfl : drawOK _ = true), ?_⟩
         | refine Or.inl ?_
         | refine ⟨⟨congrArg (T.int _) ?_, rfl⟩, ?_⟩
         | refine ⟨⟨congrArg T.bool ?_, rfl⟩, ?_⟩
         | refine ⟨⟨rfl, Nat.le_of_ble_eq_true rfl⟩, ?_⟩
         | refine ⟨⟨rfl, rfl⟩, ?_⟩
         | refine ⟨⟨rfl, (by decide)⟩, ?_⟩
         | refine ⟨⟨rfl, ?_⟩, ?_⟩
         | refine ⟨Or.inr rfl, ?_⟩
         | refine ⟨Or.inl rfl, ?_⟩
         | refine ⟨⟨⟨rfl, rfl, rfl⟩, ?_⟩, ?_⟩
         | refine ⟨_, _, rfl, row_get _ _ arith, rfl, ?_⟩
         | refine ⟨Or.inr (by repeat (first | exact trivial | refine ⟨rfl, ?_⟩)), ?_⟩
         | refine ⟨(?_ : _ = ([] : List (List T))), ?_⟩
         | fail))
  · rw [cntAt_zero]; omega
  · exact (mkAt_zero _ _).symm
  all_goals first
    | (have h0 := lt_mkm (by assumption); have h1 := cntAt_succ (x.map DReceivedShare.e) (i := i) (by rw [List.length_map]; exact h0); have h2 := cntAt_le (x.map DReceivedShare.e) (i + 1); rw [map_get] at h1; simp only [DReceivedShare.e, cntCells, cntT, Nat.add_zero] at h1; rw [h1]; (try simp (disch := omega) only [w64_ok]); omega)
    | (have h0 := lt_mkm (by assumption); have h1 := cntAt_succ (x.map DReceivedShare.e) (i := i) (by rw [List.length_map]; exact h0); have h2 := cntAt_le (x.map DReceivedShare.e) (i + 1); rw [map_get] at h1; simp only [DReceivedShare.e, cntCells, cntT, Nat.add_zero] at h1; (try unfold mid); (try simp only [List.set_set]); rw [← mkAt_set _ _ (by rw [List.length_map]; exact h0), map_get]; congr 1 <;> (simp (disch := omega) only [DReceivedShare.e, mkCells, mkT, cntT, w64_ok, List.take_zero, List.take_succ_cons, List.drop_zero, List.drop_succ_cons, List.nil_append, List.cons_append, List.length_cons, List.length_nil, Nat.zero_add, Nat.reduceAdd, eU, eI, eL]; try (first | rfl | (simp only [Int.add_assoc]; rfl))))
    | (have h0 := ge_mkm (by assumption); rw [cntAt_all _ (by rw [List.length_map]; exact h0)])
    | (have h0 := ge_mkm (by assumption); rw [mkAt_all _ _ (by rw [List.length_map]; exact h0)])
theorem c_markServerS (x : (List DServer)) (k : Int) (hx : (szL DServer.sz) x ≤ 4611686018427387904) (hk : 0 ≤ k ∧ k + cntRows (x.map DServer.e) ≤ 4611686018427387904) : MutAt Try.prog 24 (.one (.w 5 (x.map DServer.e))) (.one (.w 5 (mkRows (x.map DServer.e) k))) [.one (I k)] (I (k + cntRows (x.map DServer.e))) := by
  have hl : x.length ≤ 4611686018427387904 := by first | exact hx | exact Nat.le_trans (szL_len _ _) hx
  refine mut_of Try.func24 rfl (by kernel_rfl) rfl (by simp [isScal]) rfl ?_
  all_goals repeat' (first
    | (with_reducible rfl)
    | (conv => whnf
       first
         | exact trivial
         | (with_reducible rfl)
         | exact (rfl : (0 : Int) = ((0 : Nat) : Int))
         | exact w64_nat arith
         | refine bcase_T (by first | with_reducible rfl | decide) ?_
         | refine bcase_F (by first | with_reducible rfl | decide) ?_
         | refine bcase_dec (fun _ => ?_) (fun _ => ?_)
         | refine bcase_not ?_
         | refine bcase_intro (fun _ => ?_) (fun _ => ?_)
         | refine ⟨(by with_reducible rfl), ?_⟩
         | refine ⟨congrArg vi ?_, ?_⟩
         | refine ⟨congrArg vb ?_, ?_⟩
         | refine ⟨rfl, ?_⟩
         | refine ⟨(by kernel_rfl : drawOK _ = true), ?_⟩
         | refine Or.inl ?_
         | refine ⟨⟨congrArg (T.int _) ?_, rfl⟩, ?_⟩
         | refine ⟨⟨congrArg T.bool ?_, rfl⟩, ?_⟩
         | refine ⟨⟨rfl, Nat.le_of_ble_eq_true rfl⟩, ?_⟩
         | refine ⟨⟨rfl, rfl⟩, ?_⟩
         | refine ⟨⟨rfl, (by decide)⟩, ?_⟩
         | refine ⟨⟨rfl, ?_⟩, ?_⟩
         | refine ⟨Or.inr rfl, ?_⟩
         | refine ⟨Or.inl rfl, ?_⟩
         | refine ⟨⟨⟨rfl, rfl, rfl⟩, ?_⟩, ?_⟩
         | refine ⟨_, _, rfl, row_get _ _ arith, rfl, ?_⟩
         | refine ⟨Or.inr (by repeat (first | exact trivial | refine ⟨rfl, ?_⟩)), ?_⟩
         | refine ⟨(?_ : _ = ([] : List (List T))), ?_⟩
         | fail))
  conv => whnf
  refine ⟨Nat, fun i => i ≤ x.length, fun i => ⟨[(0, .pin (.c (.ref 0))), (1, vi (k + cntAt (x.map DServer.e) i)), (5, vi i)], [(0, .row true false 5 (mkAt (x.map DServer.e) k i))], 1⟩, fun i => x.length - i, 0, Nat.zero_le _, ⟨[(0, some 0)], rfl, rfl, rfl, ?_, ?_⟩, fun i (hi : i ≤ x.length) => ?_⟩
  all_goals repeat' (first
    | (with_reducible rfl)
    | (conv => whnf
       first
         | refine Or.inr ?_
         | refine ⟨_, (by first | exact mid_get (lt_mkm (by assumption)) | exact set_get' (by simp only [List.length_set, mkAt_len, List.length_map]; exact lt_mkm (by assumption)) | exact mkAt_getm (lt_mkm (by assumption))), .one (.w 2 _), _, _, ⟨⟨rfl, rfl⟩, ⟨rfl, rfl⟩, (by intro r hr; obtain ⟨_, _, rfl⟩ := List.mem_map.1 hr; rfl)⟩, c_markReceivedShareS _ _ (by have h0 := lt_mkm (by assumption); exact (by have h3 := szL_get DServer.sz x h0; simp only [DServer.sz] at h3; omega)) (by have h0 := lt_mkm (by assumption); have h1 := cntAt_succ (x.map DServer.e) (i := i) (by rw [List.length_map]; exact h0); have h2 := cntAt_le (x.map DServer.e) (i + 1); rw [map_get] at h1; simp only [DServer.e, cntCells, cntT, Nat.add_zero] at h1; (try simp (disch := omega) only [w64_ok]); omega), ?_⟩
         | refine ⟨i, rfl, (by simp only [List.length_set, mkAt_len, List.length_map]; exact lt_mkm (by assumption)), ?_⟩
         | refine ⟨_, (by first | exact mid_get (lt_mkm (by assumption)) | exact set_get' (by simp only [List.length_set, mkAt_len, List.length_map]; exact lt_mkm (by assumption)) | exact mkAt_getm (lt_mkm (by assumption))), ⟨rfl, Nat.le_of_ble_eq_true rfl⟩, ?_⟩
         | refine ⟨i + 1, ⟨arith, arith⟩, ⟨[(0, some 0)], rfl, rfl, rfl, ?_, ?_⟩⟩
         | refine ⟨congrArg (T.int _) ?_, ?_⟩
         | refine ⟨congrArg (fun r => RV.one (.w _ r)) ?_, ?_⟩
         | exact trivial
         | (with_reducible rfl)
         | exact (rfl : (0 : Int) = ((0 : Nat) : Int))
         | exact w64_nat arith
         | refine bcase_T (by first | with_reducible rfl | decide) ?_
         | refine bcase_F (by first | with_reducible rfl | decide) ?_
         | refine bcase_dec (fun _ => ?_) (fun _ => ?_)
         | refine bcase_not ?_
         | refine bcase_intro (fun _ => ?_) (fun _ => ?_)
         | refine ⟨(by with_reducible rfl), ?_⟩
         | refine ⟨congrArg vi ?_, ?_⟩
         | refine ⟨congrArg vb ?_, ?_⟩
         | refine ⟨rfl, ?_⟩
         | refine ⟨(by kernel_rfl : drawOK _ = true), ?_⟩
         | refine Or.inl ?_
         | refine ⟨⟨congrArg (T.int _) ?_, rfl⟩, ?_⟩
         | refine ⟨⟨congrArg T.bool ?_, rfl⟩, ?_⟩
         | refine ⟨⟨rfl, Nat.le_of_ble_eq_true rfl⟩, ?_⟩
         | refine ⟨⟨rfl, rfl⟩, ?_⟩
         | refine ⟨⟨rfl, (by decide)⟩, ?_⟩
         | refine ⟨⟨rfl, ?_⟩, ?_⟩
         | refine ⟨Or.inr rfl, ?_⟩
         | refine ⟨Or.inl rfl, ?_⟩
         | refine ⟨⟨⟨rfl, rfl, rfl⟩, ?_⟩, ?_⟩
         | refine ⟨_, _, rfl, row_get _ _ arith, rfl, ?_⟩
         | refine ⟨Or.inr (by repeat (first | exact trivial | refine ⟨rfl, ?_⟩)), ?_⟩
         | refine ⟨(?_ : _ = ([] : List (List T))), ?_⟩
         | fail))
  · rw [cntAt_zero]; omega
  · exact (mkAt_zero _ _).symm
  all_goals first
    | (have h0 := lt_mkm (by assumption); have h1 := cntAt_succ (x.map DServer.e) (i := i) (by rw [List.length_map]; exact h0); have h2 := cntAt_le (x.map DServer.e) (i + 1); rw [map_get] at h1; simp only [DServer.e, cntCells, cntT, Nat.add_zero] at h1; rw [h1]; (try simp (disch := omega) only [w64_ok]); omega)
    | (have h0 := lt_mkm (by assumption); have h1 := cntAt_succ (x.map DServer.e) (i := i) (by rw [List.length_map]; exact h0); have h2 := cntAt_le (x.map DServer.e) (i + 1); rw [map_get] at h1; simp only [DServer.e, cntCells, cntT, Nat.add_zero] at h1; (try unfold mid); (try simp only [List.set_set]); rw [← mkAt_set _ _ (by rw [List.length_map]; exact h0), map_get]; congr 1 <;> (simp (disch := omega) only [DServer.e, mkCells, mkT, cntT, w64_ok, List.take_zero, List.take_succ_cons, List.drop_zero, List.drop_succ_cons, List.nil_append, List.cons_append, List.length_cons, List.length_nil, Nat.zero_add, Nat.reduceAdd, eU, eI, eL]; try (first | rfl | (simp only [Int.add_assoc]; rfl))))
    | (have h0 := ge_mkm (by assumption); rw [cntAt_all _ (by rw [List.length_map]; exact h0)])
    | (have h0 := ge_mkm (by assumption); rw [mkAt_all _ _ (by rw [List.length_map]; exact h0)])
theorem cnt_DatabaseS (x : (List DDatabase)) : cntRows (x.map DDatabase.e) ≤ 16 * (szL DDatabase.sz) x := cnt_list (fun x => by have h0 := cnt_ByteSS x.Rows; simp only [DDatabase.e, cntCells, cntT, DDatabase.sz]; omega) x
theorem c_markDatabaseS (x : (List DDatabase)) (k : Int) (hx : (szL DDatabase.sz) x ≤ 4611686018427387904) (hk : 0 ≤ k ∧ k + cntRows (x.map DDatabase.e) ≤ 4611686018427387904) : MutAt Try.prog 25 (.one (.w 1 (x.map DDatabase.e))) (.one (.w 1 (mkRows (x.map DDatabase.e) k))) [.one (I k)] (I (k + cntRows (x.map DDatabase.e))) := by
  have hl : x.length ≤ 4611686018427387904 := by first | exact hx | exact Nat.le_trans (szL_len _ _) hx
  refine mut_of Try.func25 rfl (by kernel_rfl) rfl (by simp [isScal]) rfl ?_
  all_goals repeat' (first
    | (with_reducible rfl)
    | (conv => whnf
       first
         | exact trivial
         | (with_reducible rfl)
         | exact (rfl : (0 : Int) = ((0 : Nat) : Int))
         | exact w64_nat arith
         | refine bcase_T (by first | with_reducible rfl | decide) ?_
         | refine bcase_F (by first | with_reducible rfl | decide) ?_
         | refine bcase_dec (fun _ => ?_) (fun _ => ?_)
         | refine bcase_not ?_
         | refine bcase_intro (fun _ => ?_) (fun _ => ?_)
         | refine ⟨(by with_reducible rfl), ?_⟩
         | refine ⟨congrArg vi ?_, ?_⟩
         | refine ⟨congrArg vb ?_, ?_⟩
         | refine ⟨rfl, ?_⟩
         | refine ⟨(by kernel_rfl : drawOK _ = true), ?_⟩
         | refine Or.inl ?_
         | refine ⟨⟨congrArg (T.int _) ?_, rfl⟩, ?_⟩
         | refine ⟨⟨congrArg T.bool ?_, rfl⟩, ?_⟩
         | refine ⟨⟨rfl, Nat.le_of_ble_eq_true rfl⟩, ?_⟩
         | refine ⟨⟨rfl, rfl⟩, ?_⟩
         | refine ⟨⟨rfl, (by decide)⟩, ?_⟩
         | refine ⟨⟨rfl, ?_⟩, ?_⟩
         | refine ⟨Or.inr rfl, ?_⟩
         | refine ⟨Or.inl rfl, ?_⟩
         | refine ⟨⟨⟨rfl, rfl, rfl⟩, ?_⟩, ?_⟩
         | refine ⟨_, _, rfl, row_get _ _ arith, rfl, ?_⟩
         | refine ⟨Or.inr (by repeat (first | exact trivial | refine ⟨rfl, ?_⟩)), ?_⟩
         | refine ⟨(?_ : _ = ([] : List (List T))), ?_⟩
         | fail))
  conv => whnf
  refine ⟨Nat, fun i => i ≤ x.length, fun i => ⟨[(0, .pin (.c (.ref 0))), (1, vi (k + cntAt (x.map DDatabase.e) i)), (5, vi i)], [(0, .row true false 1 (mkAt (x.map DDatabase.e) k i))], 1⟩, fun i => x.length - i, 0, Nat.zero_le _, ⟨[(0, some 0)], rfl, rfl, rfl, ?_, ?_⟩, fun i (hi : i ≤ x.length) => ?_⟩
  all_goals repeat' (first
    | (with_reducible rfl)
    | (conv => whnf
       first
         | refine Or.inr ?_
         | refine ⟨_, (by first | exact mid_get (lt_mkm (by assumption)) | exact set_get' (by simp only [List.length_set, mkAt_len, List.length_map]; exact lt_mkm (by assumption)) | exact mkAt_getm (lt_mkm (by assumption))), .one (.w 1 _), _, _, ⟨⟨rfl, rfl⟩, ⟨rfl, rfl⟩, (by intro r hr; obtain ⟨_, _, rfl⟩ := List.mem_map.1 hr; rfl)⟩, c_markByteSS _ _ (by have h0 := lt_mkm (by assumption); exact (by have h3 := szL_get DDatabase.sz x h0; simp only [DDatabase.sz] at h3; omega)) (by have h0 := lt_mkm (by assumption); have h1 := cntAt_succ (x.map DDatabase.e) (i := i) (by rw [List.length_map]; exact h0); have h2 := cntAt_le (x.map DDatabase.e) (i + 1); rw [map_get] at h1; simp only [DDatabase.e, cntCells, cntT, Nat.add_zero] at h1; (try simp (disch := omega) only [w64_ok]); omega), ?_⟩
         | refine ⟨i, rfl, (by simp only [List.length_set, mkAt_len, List.length_map]; exact lt_mkm (by assumption)), ?_⟩
         | refine ⟨_, (by first | exact mid_get (lt_mkm (by assumption)) | exact set_get' (by simp only [List.length_set, mkAt_len, List.length_map]; exact lt_mkm (by assumption)) | exact mkAt_getm (lt_mkm (by assumption))), ⟨rfl, Nat.le_of_ble_eq_true rfl⟩, ?_⟩
         | refine ⟨i + 1, ⟨arith, arith⟩, ⟨[(0, some 0)], rfl, rfl, rfl, ?_, ?_⟩⟩
         | refine ⟨congrArg (T.int _) ?_, ?_⟩
         | refine ⟨congrArg (fun r => RV.one (.w _ r)) ?_, ?_⟩
         | exact trivial
         | (with_reducible rfl)
         | exact (rfl : (0 : Int) = ((0 : Nat) : Int))
         | exact w64_nat arith
         | refine bcase_T (by first | with_reducible rfl | decide) ?_
         | refine bcase_F (by first | with_reducible rfl | decide) ?_
         | refine bcase_dec (fun _ => ?_) (fun _ => ?_)
         | refine bcase_not ?_
         | refine bcase_intro (fun _ => ?_) (fun _ => ?_)
         | refine ⟨(by with_reducible rfl), ?_⟩
         | refine ⟨congrArg vi ?_, ?_⟩
         | refine ⟨congrArg vb ?_, ?_⟩
         | refine ⟨rfl, ?_⟩
         | refine ⟨(by kernel_rfl : drawOK _ = true), ?_⟩
         | refine Or.inl ?_
         | refine ⟨⟨congrArg (T.int _) ?_, rfl⟩, ?_⟩
         | refine ⟨⟨congrArg T.bool ?_, rfl⟩, ?_⟩
         | refine ⟨⟨rfl, Nat.le_of_ble_eq_true rfl⟩, ?_⟩
         | refine ⟨⟨rfl, rfl⟩, ?_⟩
         | refine ⟨⟨rfl, (by decide)⟩, ?_⟩
         | refine ⟨⟨rfl, ?_⟩, ?_⟩
         | refine ⟨Or.inr rfl, ?_⟩
         | refine ⟨Or.inl rfl, ?_⟩
         | refine ⟨⟨⟨rfl, rfl, rfl⟩, ?_⟩, ?_⟩
         | refine ⟨_, _, rfl, row_get _ _ arith, rfl, ?_⟩
         | refine ⟨Or.inr (by repeat (first | exact trivial | refine ⟨rfl, ?_⟩)), ?_⟩
         | refine ⟨(?_ : _ = ([] : List (List T))), ?_⟩
         | fail))
  · rw [cntAt_zero]; omega
  · exact (mkAt_zero _ _).symm
  all_goals first
    | (have h0 := lt_mkm (by assumption); have h1 := cntAt_succ (x.map DDatabase.e) (i := i) (by rw [List.length_map]; exact h0); have h2 := cntAt_le (x.map DDatabase.e) (i + 1); rw [map_get] at h1; simp only [DDatabase.e, cntCells, cntT, Nat.add_zero] at h1; rw [h1]; (try simp (disch := omega) only [w64_ok]); omega)
    | (have h0 := lt_mkm (by assumption); have h1 := cntAt_succ (x.map DDatabase.e) (i := i) (by rw [List.length_map]; exact h0); have h2 := cntAt_le (x.map DDatabase.e) (i + 1); rw [map_get] at h1; simp only [DDatabase.e, cntCells, cntT, Nat.add_zero] at h1; (try unfold mid); (try simp only [List.set_set]); rw [← mkAt_set _ _ (by rw [List.length_map]; exact h0), map_get]; congr 1 <;> (simp (disch := omega) only [DDatabase.e, mkCells, mkT, cntT, w64_ok, List.take_zero, List.take_succ_cons, List.drop_zero, List.drop_succ_cons, List.nil_append, List.cons_append, List.length_cons, List.length_nil, Nat.zero_add, Nat.reduceAdd, eU, eI, eL]; try (first | rfl | (simp only [Int.add_assoc]; rfl))))
    | (have h0 := ge_mkm (by assumption); rw [cntAt_all _ (by rw [List.length_map]; exact h0)])
    | (have h0 := ge_mkm (by assumption); rw [mkAt_all _ _ (by rw [List.length_map]; exact h0)])
theorem c_markDatabase (x : DDatabase) (k : Int) (hx : DDatabase.sz x ≤ 4611686018427387904) (hk : 0 ≤ k ∧ (k + cntRows (x.Rows.map (eL eU))) ≤ 4611686018427387904) : MutAt Try.prog 46 (.agg [.w 1 (x.Rows.map (eL eU))]) (.agg [.w 1 (mkRows (x.Rows.map (eL eU)) k)]) [.one (I k)] (I (k + cntRows (x.Rows.map (eL eU)))) := by
  refine mut_of Try.func46 rfl (by kernel_rfl) rfl (by simp [isScal]) rfl ?_
  all_goals repeat' (first
    | (with_reducible rfl)
    | (conv => whnf
       first
         | refine Or.inr ⟨rfl, Or.inr (Or.inl ?_)⟩
         | refine ⟨rfl, _, _, c_markByteSS _ _ (by simp only [DDatabase.sz] at hx; omega) (by omega), ?_⟩
         | refine ⟨congrArg (T.int _) ?_, ?_⟩
         | refine ⟨rfl, ?_⟩
         | exact trivial
         | (with_reducible rfl)
         | exact (rfl : (0 : Int) = ((0 : Nat) : Int))
         | exact w64_nat arith
         | refine bcase_T (by first | with_reducible rfl | decide) ?_
         | refine bcase_F (by first | with_reducible rfl | decide) ?_
         | refine bcase_dec (fun _ => ?_) (fun _ => ?_)
         | refine bcase_not ?_
         | refine bcase_intro (fun _ => ?_) (fun _ => ?_)
         | refine ⟨(by with_reducible rfl), ?_⟩
         | refine ⟨congrArg vi ?_, ?_⟩
         | refine ⟨congrArg vb ?_, ?_⟩
         | refine ⟨rfl, ?_⟩
         | refine ⟨(by kernel_rfl : drawOK _ = true), ?_⟩
         | refine Or.inl ?_
         | refine ⟨⟨congrArg (T.int _) ?_, rfl⟩, ?_⟩
         | refine ⟨⟨congrArg T.bool ?_, rfl⟩, ?_⟩
         | refine ⟨⟨rfl, Nat.le_of_ble_eq_true rfl⟩, ?_⟩
         | refine ⟨⟨rfl, rfl⟩, ?_⟩
         | refine ⟨⟨rfl, (by decide)⟩, ?_⟩
         | refine ⟨⟨rfl, ?_⟩, ?_⟩
         | refine ⟨Or.inr rfl, ?_⟩
         | refine ⟨Or.inl rfl, ?_⟩
         | refine ⟨⟨⟨rfl, rfl, rfl⟩, ?_⟩, ?_⟩
         | refine ⟨_, _, rfl, row_get _ _ arith, rfl, ?_⟩
         | refine ⟨Or.inr (by repeat (first | exact trivial | refine ⟨rfl, ?_⟩)), ?_⟩
         | refine ⟨(?_ : _ = ([] : List (List T))), ?_⟩
         | fail))
  all_goals rfl
theorem cnt_IntS (x : (List Int)) : cntRows (x.map eI) ≤ 16 * x.length := cnt_flat (fun x => by simp only [eI, cntCells, cntT]; omega) x
theorem cnt_SignedAnswerS (x : (List DSignedAnswer)) : cntRows (x.map DSignedAnswer.e) ≤ 16 * (szL DSignedAnswer.sz) x := cnt_list (fun x => by have h0 := cnt_IntS x.Selection; have h1 := cnt_ByteS x.Data; simp only [DSignedAnswer.e, cntCells, cntT, DSignedAnswer.sz]; omega) x
theorem c_markIntS (x : (List Int)) (k : Int) (hx : List.length x ≤ 4611686018427387904) (hk : 0 ≤ k ∧ k + cntRows (x.map eI) ≤ 4611686018427387904) : MutAt Try.prog 48 (.one (.w 1 (x.map eI))) (.one (.w 1 (mkRows (x.map eI) k))) [.one (I k)] (I (k + cntRows (x.map eI))) := by
  have hl : x.length ≤ 4611686018427387904 := by first | exact hx | exact Nat.le_trans (szL_len _ _) hx
  refine mut_of Try.func48 rfl (by kernel_rfl) rfl (by simp [isScal]) rfl ?_
  all_goals repeat' (first
    | (with_reducible rfl)
    | (conv => whnf
       first
         | exact trivial
         | (with_reducible rfl)
         | exact (rfl : (0 : Int) = ((0 : Nat) : Int))
         | exact w64_nat arith
         | refine bcase_T (by first | with_reducible rfl | decide) ?_
         | refine bcase_F (by first | with_reducible rfl | decide) ?_
         | refine bcase_dec (fun _ => ?_) (fun _ => ?_)
         | refine bcase_not ?_
         | refine bcase_intro (fun _ => ?_) (fun _ => ?_)
         | refine ⟨(by with_reducible rfl), ?_⟩
         | refine ⟨congrArg vi ?_, ?_⟩
         | refine ⟨congrArg vb ?_, ?_⟩
         | refine ⟨rfl, ?_⟩
         | refine ⟨(by kernel_rfl : drawOK _ = true), ?_⟩
         | refine Or.inl ?_
         | refine ⟨⟨congrArg (T.int _) ?_, rfl⟩, ?_⟩
         | refine ⟨⟨congrArg T.bool ?_, rfl⟩, ?_⟩
         | refine ⟨⟨rfl, Nat.le_of_ble_eq_true rfl⟩, ?_⟩
         | refine ⟨⟨rfl, rfl⟩, ?_⟩
         | refine ⟨⟨rfl, (by decide)⟩, ?_⟩
         | refine ⟨⟨rfl, ?_⟩, ?_⟩
         | refine ⟨Or.inr rfl, ?_⟩
         | refine ⟨Or.inl rfl, ?_⟩
         | refine ⟨⟨⟨rfl, rfl, rfl⟩, ?_⟩, ?_⟩
         | refine ⟨_, _, rfl, row_get _ _ arith, rfl, ?_⟩
         | refine ⟨Or.inr (by repeat (first | exact trivial | refine ⟨rfl, ?_⟩)), ?_⟩
         | refine ⟨(?_ : _ = ([] : List (List T))), ?_⟩
         | fail))
  conv => whnf
  refine ⟨Nat, fun i => i ≤ x.length, fun i => ⟨[(0, .pin (.c (.ref 0))), (1, vi (k + cntAt (x.map eI) i)), (5, vi i)], [(0, .row true false 1 (mkAt (x.map eI) k i))], 1⟩, fun i => x.length - i, 0, Nat.zero_le _, ⟨[(0, some 0)], rfl, rfl, rfl, ?_, ?_⟩, fun i (hi : i ≤ x.length) => ?_⟩
  all_goals repeat' (first
    | (with_reducible rfl)
    | (conv => whnf
       first
         | refine Or.inr ?_
         | refine ⟨i, rfl, (by simp only [List.length_set, mkAt_len, List.length_map]; exact lt_mkm (by assumption)), ?_⟩
         | refine ⟨_, (by first | exact mid_get (lt_mkm (by assumption)) | exact set_get' (by simp only [List.length_set, mkAt_len, List.length_map]; exact lt_mkm (by assumption)) | exact mkAt_getm (lt_mkm (by assumption))), ⟨rfl, Nat.le_of_ble_eq_true rfl⟩, ?_⟩
         | refine ⟨i + 1, ⟨arith, arith⟩, ⟨[(0, some 0)], rfl, rfl, rfl, ?_, ?_⟩⟩
         | refine ⟨congrArg (T.int _) ?_, ?_⟩
         | refine ⟨congrArg (fun r => RV.one (.w _ r)) ?_, ?_⟩
         | exact trivial
         | (with_reducible rfl)
         | exact (rfl : (0 : Int) = ((0 : Nat) : Int))
         | exact w64_nat arith
         | refine bcase_T (by first | with_reducible rfl | decide) ?_
         | refine bcase_F (by first | with_reducible rfl | decide) ?_
         | refine bcase_dec (fun _ => ?_) (fun _ => ?_)
         | refine bcase_not ?_
         | refine bcase_intro (fun _ => ?_) (fun _ => ?_)
         | refine ⟨(by with_reducible rfl), ?_⟩
         | refine ⟨congrArg vi ?_, ?_⟩
         | refine ⟨congrArg vb ?_, ?_⟩
         | refine ⟨rfl, ?_⟩
         | refine ⟨(by kernel_rfl : drawOK _ = true), ?_⟩
         | refine Or.inl ?_
         | refine ⟨⟨congrArg (T.int _) ?_, rfl⟩, ?_⟩
         | refine ⟨⟨congrArg T.bool ?_, rfl⟩, ?_⟩
         | refine ⟨⟨rfl, Nat.le_of_ble_eq_true rfl⟩, ?_⟩
         | refine ⟨⟨rfl, rfl⟩, ?_⟩
         | refine ⟨⟨rfl, (by decide)⟩, ?_⟩
         | refine ⟨⟨rfl, ?_⟩, ?_⟩
         | refine ⟨Or.inr rfl, ?_⟩
         | refine ⟨Or.inl rfl, ?_⟩
         | refine ⟨⟨⟨rfl, rfl, rfl⟩, ?_⟩, ?_⟩
         | refine ⟨_, _, rfl, row_get _ _ arith, rfl, ?_⟩
         | refine ⟨Or.inr (by repeat (first | exact trivial | refine ⟨rfl, ?_⟩)), ?_⟩
         | refine ⟨(?_ : _ = ([] : List (List T))), ?_⟩
         | fail))
  · rw [cntAt_zero]; omega
  · exact (mkAt_zero _ _).symm
  all_goals first
    | (have h0 := lt_mkm (by assumption); have h1 := cntAt_succ (x.map eI) (i := i) (by rw [List.length_map]; exact h0); have h2 := cntAt_le (x.map eI) (i + 1); rw [map_get] at h1; simp only [eI, cntCells, cntT, Nat.add_zero] at h1; rw [h1]; (try simp (disch := omega) only [w64_ok]); omega)
    | (have h0 := lt_mkm (by assumption); have h1 := cntAt_succ (x.map eI) (i := i) (by rw [List.length_map]; exact h0); have h2 := cntAt_le (x.map eI) (i + 1); rw [map_get] at h1; simp only [eI, cntCells, cntT, Nat.add_zero] at h1; (try unfold mid); (try simp only [List.set_set]); rw [← mkAt_set _ _ (by rw [List.length_map]; exact h0), map_get]; congr 1 <;> (simp (disch := omega) only [eI, mkCells, mkT, cntT, w64_ok, List.take_zero, List.take_succ_cons, List.drop_zero, List.drop_succ_cons, List.nil_append, List.cons_append, List.length_cons, List.length_nil, Nat.zero_add, Nat.reduceAdd, eU, eI, eL]; try (first | rfl | (simp only [Int.add_assoc]; rfl))))
    | (have h0 := ge_mkm (by assumption); rw [cntAt_all _ (by rw [List.length_map]; exact h0)])
    | (have h0 := ge_mkm (by assumption); rw [mkAt_all _ _ (by rw [List.length_map]; exact h0)])
theorem c_markSignedAnswerS (x : (List DSignedAnswer)) (k : Int) (hx : (szL DSignedAnswer.sz) x ≤ 4611686018427387904) (hk : 0 ≤ k ∧ k + cntRows (x.map DSignedAnswer.e) ≤ 4611686018427387904) : MutAt Try.prog 47 (.one (.w 5 (x.map DSignedAnswer.e))) (.one (.w 5 (mkRows (x.map DSignedAnswer.e) k))) [.one (I k)] (I (k + cntRows (x.map DSignedAnswer.e))) := by
  have hl : x.length ≤ 4611686018427387904 := by first | exact hx | exact Nat.le_trans (szL_len _ _) hx
  refine mut_of Try.func47 rfl (by kernel_rfl) rfl (by simp [isScal]) rfl ?_
  all_goals repeat' (first
    | (with_reducible rfl)
    | (conv => whnf
       first
         | exact trivial
         | (with_reducible rfl)
         | exact (rfl : (0 : Int) = ((0 : Nat) : Int))
         | exact w64_nat arith
         | refine bcase_T (by first | with_reducible rfl | decide) ?_
         | refine bcase_F (by first | with_reducible rfl | decide) ?_
         | refine bcase_dec (fun _ => ?_) (fun _ => ?_)
         | refine bcase_not ?_
         | refine bcase_intro (fun _ => ?_) (fun _ => ?_)
         | refine ⟨(by with_reducible rfl), ?_⟩
         | refine ⟨congrArg vi ?_, ?_⟩
         | refine ⟨congrArg vb ?_, ?_⟩
         | refine ⟨rfl, ?_⟩
         | refine ⟨(by kernel_rfl : drawOK _ = true), ?_⟩
         | refine Or.inl ?_
         | refine ⟨⟨congrArg (T.int _) ?_, rfl⟩, ?_⟩
         | refine ⟨⟨congrArg T.bool ?_, rfl⟩, ?_⟩
         | refine ⟨⟨rfl, Nat.le_of_ble_eq_true rfl⟩, ?_⟩
         | refine ⟨⟨rfl, rfl⟩, ?_⟩
         | refine ⟨⟨rfl, (by decide)⟩, ?_⟩
         | refine ⟨⟨rfl, ?_⟩, ?_⟩
         | refine ⟨Or.inr rfl, ?_⟩
         | refine ⟨Or.inl rfl, ?_⟩
         | refine ⟨⟨⟨rfl, rfl, rfl⟩, ?_⟩, ?_⟩
         | refine ⟨_, _, rfl, row_get _ _ arith, rfl, ?_⟩
         | refine ⟨Or.inr (by repeat (first | exact trivial | refine ⟨rfl, ?_⟩)), ?_⟩
         | refine ⟨(?_ : _ = ([] : List (List T))), ?_⟩
         | fail))
  conv => whnf
  refine ⟨Nat, fun i => i ≤ x.length, fun i => ⟨[(0, .pin (.c (.ref 0))), (1, vi (k + cntAt (x.map DSignedAnswer.e) i)), (5, vi i)], [(0, .row true false 5 (mkAt (x.map DSignedAnswer.e) k i))], 1⟩, fun i => x.length - i, 0, Nat.zero_le _, ⟨[(0, some 0)], rfl, rfl, rfl, ?_, ?_⟩, fun i (hi : i ≤ x.length) => ?_⟩
  all_goals repeat' (first
    | (with_reducible rfl)
    | (conv => whnf
       first
         | refine Or.inr ?_
         | refine ⟨_, (by first | exact mid_get (lt_mkm (by assumption)) | exact set_get' (by simp only [List.length_set, mkAt_len, List.length_map]; exact lt_mkm (by assumption)) | exact mkAt_getm (lt_mkm (by assumption))), .one (.w 1 _), _, _, ⟨⟨rfl, rfl⟩, ⟨rfl, rfl⟩, (by intro r hr; obtain ⟨_, _, rfl⟩ := List.mem_map.1 hr; rfl)⟩, c_markIntS _ _ (by have h0 := lt_mkm (by assumption); exact (by have h3 := szL_get DSignedAnswer.sz x h0; simp only [DSignedAnswer.sz] at h3; omega)) (by have h0 := lt_mkm (by assumption); have h1 := cntAt_succ (x.map DSignedAnswer.e) (i := i) (by rw [List.length_map]; exact h0); have h2 := cntAt_le (x.map DSignedAnswer.e) (i + 1); rw [map_get] at h1; simp only [DSignedAnswer.e, cntCells, cntT, Nat.add_zero] at h1; (try simp (disch := omega) only [w64_ok]); omega), ?_⟩
         | refine ⟨_, (by first | exact mid_get (lt_mkm (by assumption)) | exact set_get' (by simp only [List.length_set, mkAt_len, List.length_map]; exact lt_mkm (by assumption)) | exact mkAt_getm (lt_mkm (by assumption))), .one (.w 1 _), _, _, ⟨⟨rfl, rfl⟩, ⟨rfl, rfl⟩, (by intro r hr; obtain ⟨_, _, rfl⟩ := List.mem_map.1 hr; rfl)⟩, c_markByteS _ _ (by have h0 := lt_mkm (by assumption); exact (by have h3 := szL_get DSignedAnswer.sz x h0; simp only [DSignedAnswer.sz] at h3; omega)) (by have h0 := lt_mkm (by assumption); have h1 := cntAt_succ (x.map DSignedAnswer.e) (i := i) (by rw [List.length_map]; exact h0); have h2 := cntAt_le (x.map DSignedAnswer.e) (i + 1); rw [map_get] at h1; simp only [DSignedAnswer.e, cntCells, cntT, Nat.add_zero] at h1; (try simp (disch := omega) only [w64_ok]); omega), ?_⟩
         | refine ⟨i, rfl, (by simp only [List.length_set, mkAt_len, List.length_map]; exact lt_mkm (by assumption)), ?_⟩
         | refine ⟨_, (by first | exact mid_get (lt_mkm (by assumption)) | exact set_get' (by simp only [List.length_set, mkAt_len, List.length_map]; exact lt_mkm (by assumption)) | exact mkAt_getm (lt_mkm (by assumption))), ⟨rfl, Nat.le_of_ble_eq_true rfl⟩, ?_⟩
         | refine ⟨i + 1, ⟨arith, arith⟩, ⟨[(0, some 0)], rfl, rfl, rfl, ?_, ?_⟩⟩
         | refine ⟨congrArg (T.int _) ?_, ?_⟩
         | refine ⟨congrArg (fun r => RV.one (.w _ r)) ?_, ?_⟩
         | exact trivial
         | (with_reducible rfl)
         | exact (rfl : (0 : Int) = ((0 : Nat) : Int))
         | exact w64_nat arith
         | refine bcase_T (by first | with_reducible rfl | decide) ?_
         | refine bcase_F (by first | with_reducible rfl | decide) ?_
         | refine bcase_dec (fun _ => ?_) (fun _ => ?_)
         | refine bcase_not ?_
         | refine bcase_intro (fun _ => ?_) (fun _ => ?_)
         | refine ⟨(by with_reducible rfl), ?_⟩
         | refine ⟨congrArg vi ?_, ?_⟩
         | refine ⟨congrArg vb ?_, ?_⟩
         | refine ⟨rfl, ?_⟩
         | refine ⟨(by kernel_rfl : drawOK _ = true), ?_⟩
         | refine Or.inl ?_
         | refine ⟨⟨congrArg (T.int _) ?_, rfl⟩, ?_⟩
         | refine ⟨⟨congrArg T.bool ?_, rfl⟩, ?_⟩
         | refine ⟨⟨rfl, Nat.le_of_ble_eq_true rfl⟩, ?_⟩
         | refine ⟨⟨rfl, rfl⟩, ?_⟩
         | refine ⟨⟨rfl, (by decide)⟩, ?_⟩
         | refine ⟨⟨rfl, ?_⟩, ?_⟩
         | refine ⟨Or.inr rfl, ?_⟩
         | refine ⟨Or.inl rfl, ?_⟩
         | refine ⟨⟨⟨rfl, rfl, rfl⟩, ?_⟩, ?_⟩
         | refine ⟨_, _, rfl, row_get _ _ arith, rfl, ?_⟩
         | refine ⟨Or.inr (by repeat (first | exact trivial | refine ⟨rfl, ?_⟩)), ?_⟩
         | refine ⟨(?_ : _ = ([] : List (List T))), ?_⟩
         | fail))
  · rw [cntAt_zero]; omega
  · exact (mkAt_zero _ _).symm
  all_goals first
    | (have h0 := lt_mkm (by assumption); have h1 := cntAt_succ (x.map DSignedAnswer.e) (i := i) (by rw [List.length_map]; exact h0); have h2 := cntAt_le (x.map DSignedAnswer.e) (i + 1); rw [map_get] at h1; simp only [DSignedAnswer.e, cntCells, cntT, Nat.add_zero] at h1; rw [h1]; (try simp (disch := omega) only [w64_ok]); omega)
    | (have h0 := lt_mkm (by assumption); have h1 := cntAt_succ (x.map DSignedAnswer.e) (i := i) (by rw [List.length_map]; exact h0); have h2 := cntAt_le (x.map DSignedAnswer.e) (i + 1); rw [map_get] at h1; simp only [DSignedAnswer.e, cntCells, cntT, Nat.add_zero] at h1; (try unfold mid); (try simp only [List.set_set]); rw [← mkAt_set _ _ (by rw [List.length_map]; exact h0), map_get]; congr 1 <;> (simp (disch := omega) only [DSignedAnswer.e, mkCells, mkT, cntT, w64_ok, List.take_zero, List.take_succ_cons, List.drop_zero, List.drop_succ_cons, List.nil_append, List.cons_append, List.length_cons, List.length_nil, Nat.zero_add, Nat.reduceAdd, eU, eI, eL]; try (first | rfl | (simp only [Int.add_assoc]; rfl))))
    | (have h0 := ge_mkm (by assumption); rw [cntAt_all _ (by rw [List.length_map]; exact h0)])
    | (have h0 := ge_mkm (by assumption); rw [mkAt_all _ _ (by rw [List.length_map]; exact h0)])
end Go.Proofs.Ytcoipmjboiegoaa
