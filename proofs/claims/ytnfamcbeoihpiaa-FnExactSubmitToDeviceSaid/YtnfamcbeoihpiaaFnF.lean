/-
  Contracts: devices that are copied, saved, crashed, submitted to.
  Conditions: none.
-/
import Derived.Test.YtnfamcbeoihpiaaFnE
import Derived.Test.YtnfamcbeoihpiaaFnQ
namespace Go.Proofs.Ytnfamcbeoihpiaa
set_option maxHeartbeats 2000000
set_option maxRecDepth 20000
open Go.Vm Go.RowKit
attribute [local irreducible] FnAt MutAt InAt

def saveD (d : DDevice) : DDevice := if devOk d then ⟨d.Live, d.Live⟩ else d
def crashD (d : DDevice) : DDevice := if devOk d then ⟨d.Saved, d.Saved⟩ else d
def submitOk (d : DDevice) (b : List UInt8) : Bool := devOk d && queued d.Live b && queued d.Saved b
def submitD (d : DDevice) (b : List UInt8) : DDevice := if submitOk d b then ⟨queue d.Live b, queue d.Saved b⟩ else d
theorem c_l30Copy (d : DDevice) (h : bigD d) : FnAt Try.prog 130 [.agg (DDevice.e d)] [.agg (DDevice.r d)] := by
  refine fn_of Try.func130 rfl (by kernel_rfl) rfl ?_
  all_goals repeat' (first
    | (with_reducible rfl)
    | (conv => whnf
       first
         | exact trivial
         | (with_reducible rfl)
         | exact (rfl : (0 : Int) = ((0 : Nat) : Int))
         | exact w64_nat (by (try dsimp only); first | omega | exact lt_map (by assumption) | exact ge_map (by assumption) | (have := lt_map (by assumption); omega) | (have := ge_map (by assumption); omega) | (have := lt_mkm (by assumption); omega) | (have := ge_mkm (by assumption); omega) | (have := lt_mkr (by assumption); omega) | (have := ge_mkr (by assumption); omega) | (simp only [List.length_map, List.length_replicate] at *; omega))
         | refine bcase_T (by first | with_reducible rfl | decide) ?_
         | refine bcase_F (by first | with_reducible rfl | decide) ?_
         | refine bcase_dec (fun _ => ?_) (fun _ => ?_)
         | refine bcase_not ?_
         | refine bcase_intro (fun _ => ?_) (fun _ => ?_)
         | refine ⟨(by with_reducible rfl), ?_⟩
         | refine ⟨congrArg vi ?_, ?_⟩
         | refine ⟨congrArg vb ?_, ?_⟩
         | refine ⟨rfl, ?_⟩
         | refine ⟨(by kernel_rfl : drawOK _ = true), ?_⟩
         | refine Or.inl ?_
         | refine ⟨⟨congrArg (T.int _) ?_, rfl⟩, ?_⟩
         | refine ⟨⟨congrArg T.bool ?_, rfl⟩, ?_⟩
         | refine ⟨⟨rfl, Nat.le_of_ble_eq_true rfl⟩, ?_⟩
         | refine ⟨⟨rfl, rfl⟩, ?_⟩
         | refine ⟨⟨rfl, (by decide)⟩, ?_⟩
         | refine ⟨⟨rfl, ?_⟩, ?_⟩
         | refine ⟨Or.inr rfl, ?_⟩
         | refine ⟨Or.inl rfl, ?_⟩
         | refine ⟨⟨⟨rfl, rfl, rfl⟩, ?_⟩, ?_⟩
         | refine ⟨_, _, rfl, row_get _ _ (by (try dsimp only); first | omega | exact lt_map (by assumption) | exact ge_map (by assumption) | (have := lt_map (by assumption); omega) | (have := ge_map (by assumption); omega) | (have := lt_mkm (by assumption); omega) | (have := ge_mkm (by assumption); omega) | (have := lt_mkr (by assumption); omega) | (have := ge_mkr (by assumption); omega) | (simp only [List.length_map, List.length_replicate] at *; omega)), rfl, ?_⟩
         | refine ⟨Or.inr (by repeat (first | exact trivial | refine ⟨rfl, ?_⟩)), ?_⟩
         | refine ⟨(?_ : _ = ([] : List (List T))), ?_⟩
         | refine ⟨_, c_l29Copy d.Live h.1, ?_⟩
         | refine ⟨_, c_l29Copy d.Saved h.2, ?_⟩
         | fail))
  all_goals rfl
theorem c_copyDevice (d : DDevice) (h : bigD d) : FnAt Try.prog 133 [.agg (DDevice.e d)] [.agg (DDevice.r d)] := by
  refine fn_of Try.func133 rfl (by kernel_rfl) rfl ?_
  all_goals repeat' (first
    | (with_reducible rfl)
    | (conv => whnf
       first
         | exact trivial
         | (with_reducible rfl)
         | exact (rfl : (0 : Int) = ((0 : Nat) : Int))
         | exact w64_nat (by (try dsimp only); first | omega | exact lt_map (by assumption) | exact ge_map (by assumption) | (have := lt_map (by assumption); omega) | (have := ge_map (by assumption); omega) | (have := lt_mkm (by assumption); omega) | (have := ge_mkm (by assumption); omega) | (have := lt_mkr (by assumption); omega) | (have := ge_mkr (by assumption); omega) | (simp only [List.length_map, List.length_replicate] at *; omega))
         | refine bcase_T (by first | with_reducible rfl | decide) ?_
         | refine bcase_F (by first | with_reducible rfl | decide) ?_
         | refine bcase_dec (fun _ => ?_) (fun _ => ?_)
         | refine bcase_not ?_
         | refine bcase_intro (fun _ => ?_) (fun _ => ?_)
         | refine ⟨(by with_reducible rfl), ?_⟩
         | refine ⟨congrArg vi ?_, ?_⟩
         | refine ⟨congrArg vb ?_, ?_⟩
         | refine ⟨rfl, ?_⟩
         | refine ⟨(by kernel_rfl : drawOK _ = true), ?_⟩
         | refine Or.inl ?_
         | refine ⟨⟨congrArg (T.int _) ?_, rfl⟩, ?_⟩
         | refine ⟨⟨congrArg T.bool ?_, rfl⟩, ?_⟩
         | refine ⟨⟨rfl, Nat.le_of_ble_eq_true rfl⟩, ?_⟩
         | refine ⟨⟨rfl, rfl⟩, ?_⟩
         | refine ⟨⟨rfl, (by decide)⟩, ?_⟩
         | refine ⟨⟨rfl, ?_⟩, ?_⟩
         | refine ⟨Or.inr rfl, ?_⟩
         | refine ⟨Or.inl rfl, ?_⟩
         | refine ⟨⟨⟨rfl, rfl, rfl⟩, ?_⟩, ?_⟩
         | refine ⟨_, _, rfl, row_get _ _ (by (try dsimp only); first | omega | exact lt_map (by assumption) | exact ge_map (by assumption) | (have := lt_map (by assumption); omega) | (have := ge_map (by assumption); omega) | (have := lt_mkm (by assumption); omega) | (have := ge_mkm (by assumption); omega) | (have := lt_mkr (by assumption); omega) | (have := ge_mkr (by assumption); omega) | (simp only [List.length_map, List.length_replicate] at *; omega)), rfl, ?_⟩
         | refine ⟨Or.inr (by repeat (first | exact trivial | refine ⟨rfl, ?_⟩)), ?_⟩
         | refine ⟨(?_ : _ = ([] : List (List T))), ?_⟩
         | refine ⟨_, c_copyClient d.Live h.1, ?_⟩
         | refine ⟨_, c_copyClient d.Saved h.2, ?_⟩
         | fail))
  all_goals rfl
theorem c_sSaveDevice (d : DDevice) (h : bigD d) : FnAt Try.prog 59 [.agg (DDevice.e d)] [.agg (DDevice.r (saveD d))] := by
  refine fn_of Try.func59 rfl (by kernel_rfl) rfl ?_
  all_goals repeat' (first
    | (with_reducible rfl)
    | (conv => whnf
       first
         | exact trivial
         | (with_reducible rfl)
         | exact (rfl : (0 : Int) = ((0 : Nat) : Int))
         | exact w64_nat (by (try dsimp only); first | omega | exact lt_map (by assumption) | exact ge_map (by assumption) | (have := lt_map (by assumption); omega) | (have := ge_map (by assumption); omega) | (have := lt_mkm (by assumption); omega) | (have := ge_mkm (by assumption); omega) | (have := lt_mkr (by assumption); omega) | (have := ge_mkr (by assumption); omega) | (simp only [List.length_map, List.length_replicate] at *; omega))
         | refine bcase_T (by first | with_reducible rfl | decide) ?_
         | refine bcase_F (by first | with_reducible rfl | decide) ?_
         | refine bcase_dec (fun _ => ?_) (fun _ => ?_)
         | refine bcase_not ?_
         | refine bcase_intro (fun _ => ?_) (fun _ => ?_)
         | refine ⟨(by with_reducible rfl), ?_⟩
         | refine ⟨congrArg vi ?_, ?_⟩
         | refine ⟨congrArg vb ?_, ?_⟩
         | refine ⟨rfl, ?_⟩
         | refine ⟨(by kernel_rfl : drawOK _ = true), ?_⟩
         | refine Or.inl ?_
         | refine ⟨⟨congrArg (T.int _) ?_, rfl⟩, ?_⟩
         | refine ⟨⟨congrArg T.bool ?_, rfl⟩, ?_⟩
         | refine ⟨⟨rfl, Nat.le_of_ble_eq_true rfl⟩, ?_⟩
         | refine ⟨⟨rfl, rfl⟩, ?_⟩
         | refine ⟨⟨rfl, (by decide)⟩, ?_⟩
         | refine ⟨⟨rfl, ?_⟩, ?_⟩
         | refine ⟨Or.inr rfl, ?_⟩
         | refine ⟨Or.inl rfl, ?_⟩
         | refine ⟨⟨⟨rfl, rfl, rfl⟩, ?_⟩, ?_⟩
         | refine ⟨_, _, rfl, row_get _ _ (by (try dsimp only); first | omega | exact lt_map (by assumption) | exact ge_map (by assumption) | (have := lt_map (by assumption); omega) | (have := ge_map (by assumption); omega) | (have := lt_mkm (by assumption); omega) | (have := ge_mkm (by assumption); omega) | (have := lt_mkr (by assumption); omega) | (have := ge_mkr (by assumption); omega) | (simp only [List.length_map, List.length_replicate] at *; omega)), rfl, ?_⟩
         | refine ⟨Or.inr (by repeat (first | exact trivial | refine ⟨rfl, ?_⟩)), ?_⟩
         | refine ⟨(?_ : _ = ([] : List (List T))), ?_⟩
         | refine ⟨_, c_sIsValidDevice d h, ?_⟩
         | refine ⟨_, c_l30Copy d h, ?_⟩
         | refine ⟨_, c_sNewDevice d.Live h.1, ?_⟩
         | fail))
  all_goals (simp_all [saveD])
theorem c_SaveDevice (d : DDevice) (h : bigD d) : FnAt Try.prog 60 [.agg (DDevice.e d)] [.agg (DDevice.r (saveD d))] := by
  refine fn_of Try.func60 rfl (by kernel_rfl) rfl ?_
  all_goals repeat' (first
    | (with_reducible rfl)
    | (conv => whnf
       first
         | exact trivial
         | (with_reducible rfl)
         | exact (rfl : (0 : Int) = ((0 : Nat) : Int))
         | exact w64_nat (by (try dsimp only); first | omega | exact lt_map (by assumption) | exact ge_map (by assumption) | (have := lt_map (by assumption); omega) | (have := ge_map (by assumption); omega) | (have := lt_mkm (by assumption); omega) | (have := ge_mkm (by assumption); omega) | (have := lt_mkr (by assumption); omega) | (have := ge_mkr (by assumption); omega) | (simp only [List.length_map, List.length_replicate] at *; omega))
         | refine bcase_T (by first | with_reducible rfl | decide) ?_
         | refine bcase_F (by first | with_reducible rfl | decide) ?_
         | refine bcase_dec (fun _ => ?_) (fun _ => ?_)
         | refine bcase_not ?_
         | refine bcase_intro (fun _ => ?_) (fun _ => ?_)
         | refine ⟨(by with_reducible rfl), ?_⟩
         | refine ⟨congrArg vi ?_, ?_⟩
         | refine ⟨congrArg vb ?_, ?_⟩
         | refine ⟨rfl, ?_⟩
         | refine ⟨(by kernel_rfl : drawOK _ = true), ?_⟩
         | refine Or.inl ?_
         | refine ⟨⟨congrArg (T.int _) ?_, rfl⟩, ?_⟩
         | refine ⟨⟨congrArg T.bool ?_, rfl⟩, ?_⟩
         | refine ⟨⟨rfl, Nat.le_of_ble_eq_true rfl⟩, ?_⟩
         | refine ⟨⟨rfl, rfl⟩, ?_⟩
         | refine ⟨⟨rfl, (by decide)⟩, ?_⟩
         | refine ⟨⟨rfl, ?_⟩, ?_⟩
         | refine ⟨Or.inr rfl, ?_⟩
         | refine ⟨Or.inl rfl, ?_⟩
         | refine ⟨⟨⟨rfl, rfl, rfl⟩, ?_⟩, ?_⟩
         | refine ⟨_, _, rfl, row_get _ _ (by (try dsimp only); first | omega | exact lt_map (by assumption) | exact ge_map (by assumption) | (have := lt_map (by assumption); omega) | (have := ge_map (by assumption); omega) | (have := lt_mkm (by assumption); omega) | (have := ge_mkm (by assumption); omega) | (have := lt_mkr (by assumption); omega) | (have := ge_mkr (by assumption); omega) | (simp only [List.length_map, List.length_replicate] at *; omega)), rfl, ?_⟩
         | refine ⟨Or.inr (by repeat (first | exact trivial | refine ⟨rfl, ?_⟩)), ?_⟩
         | refine ⟨(?_ : _ = ([] : List (List T))), ?_⟩
         | refine ⟨_, c_IsValidDevice d h, ?_⟩
         | refine ⟨_, c_copyDevice d h, ?_⟩
         | refine ⟨_, c_NewDevice d.Live h.1, ?_⟩
         | fail))
  all_goals (simp_all [saveD])
theorem c_sCrashDevice (d : DDevice) (h : bigD d) : FnAt Try.prog 53 [.agg (DDevice.e d)] [.agg (DDevice.r (crashD d))] := by
  refine fn_of Try.func53 rfl (by kernel_rfl) rfl ?_
  all_goals repeat' (first
    | (with_reducible rfl)
    | (conv => whnf
       first
         | exact trivial
         | (with_reducible rfl)
         | exact (rfl : (0 : Int) = ((0 : Nat) : Int))
         | exact w64_nat (by (try dsimp only); first | omega | exact lt_map (by assumption) | exact ge_map (by assumption) | (have := lt_map (by assumption); omega) | (have := ge_map (by assumption); omega) | (have := lt_mkm (by assumption); omega) | (have := ge_mkm (by assumption); omega) | (have := lt_mkr (by assumption); omega) | (have := ge_mkr (by assumption); omega) | (simp only [List.length_map, List.length_replicate] at *; omega))
         | refine bcase_T (by first | with_reducible rfl | decide) ?_
         | refine bcase_F (by first | with_reducible rfl | decide) ?_
         | refine bcase_dec (fun _ => ?_) (fun _ => ?_)
         | refine bcase_not ?_
         | refine bcase_intro (fun _ => ?_) (fun _ => ?_)
         | refine ⟨(by with_reducible rfl), ?_⟩
         | refine ⟨congrArg vi ?_, ?_⟩
         | refine ⟨congrArg vb ?_, ?_⟩
         | refine ⟨rfl, ?_⟩
         | refine ⟨(by kernel_rfl : drawOK _ = true), ?_⟩
         | refine Or.inl ?_
         | refine ⟨⟨congrArg (T.int _) ?_, rfl⟩, ?_⟩
         | refine ⟨⟨congrArg T.bool ?_, rfl⟩, ?_⟩
         | refine ⟨⟨rfl, Nat.le_of_ble_eq_true rfl⟩, ?_⟩
         | refine ⟨⟨rfl, rfl⟩, ?_⟩
         | refine ⟨⟨rfl, (by decide)⟩, ?_⟩
         | refine ⟨⟨rfl, ?_⟩, ?_⟩
         | refine ⟨Or.inr rfl, ?_⟩
         | refine ⟨Or.inl rfl, ?_⟩
         | refine ⟨⟨⟨rfl, rfl, rfl⟩, ?_⟩, ?_⟩
         | refine ⟨_, _, rfl, row_get _ _ (by (try dsimp only); first | omega | exact lt_map (by assumption) | exact ge_map (by assumption) | (have := lt_map (by assumption); omega) | (have := ge_map (by assumption); omega) | (have := lt_mkm (by assumption); omega) | (have := ge_mkm (by assumption); omega) | (have := lt_mkr (by assumption); omega) | (have := ge_mkr (by assumption); omega) | (simp only [List.length_map, List.length_replicate] at *; omega)), rfl, ?_⟩
         | refine ⟨Or.inr (by repeat (first | exact trivial | refine ⟨rfl, ?_⟩)), ?_⟩
         | refine ⟨(?_ : _ = ([] : List (List T))), ?_⟩
         | refine ⟨_, c_sIsValidDevice d h, ?_⟩
         | refine ⟨_, c_l30Copy d h, ?_⟩
         | refine ⟨_, c_sNewDevice d.Saved h.2, ?_⟩
         | fail))
  all_goals (simp_all [crashD])
theorem c_CrashDevice (d : DDevice) (h : bigD d) : FnAt Try.prog 55 [.agg (DDevice.e d)] [.agg (DDevice.r (crashD d))] := by
  refine fn_of Try.func55 rfl (by kernel_rfl) rfl ?_
  all_goals repeat' (first
    | (with_reducible rfl)
    | (conv => whnf
       first
         | exact trivial
         | (with_reducible rfl)
         | exact (rfl : (0 : Int) = ((0 : Nat) : Int))
         | exact w64_nat (by (try dsimp only); first | omega | exact lt_map (by assumption) | exact ge_map (by assumption) | (have := lt_map (by assumption); omega) | (have := ge_map (by assumption); omega) | (have := lt_mkm (by assumption); omega) | (have := ge_mkm (by assumption); omega) | (have := lt_mkr (by assumption); omega) | (have := ge_mkr (by assumption); omega) | (simp only [List.length_map, List.length_replicate] at *; omega))
         | refine bcase_T (by first | with_reducible rfl | decide) ?_
         | refine bcase_F (by first | with_reducible rfl | decide) ?_
         | refine bcase_dec (fun _ => ?_) (fun _ => ?_)
         | refine bcase_not ?_
         | refine bcase_intro (fun _ => ?_) (fun _ => ?_)
         | refine ⟨(by with_reducible rfl), ?_⟩
         | refine ⟨congrArg vi ?_, ?_⟩
         | refine ⟨congrArg vb ?_, ?_⟩
         | refine ⟨rfl, ?_⟩
         | refine ⟨(by kernel_rfl : drawOK _ = true), ?_⟩
         | refine Or.inl ?_
         | refine ⟨⟨congrArg (T.int _) ?_, rfl⟩, ?_⟩
         | refine ⟨⟨congrArg T.bool ?_, rfl⟩, ?_⟩
         | refine ⟨⟨rfl, Nat.le_of_ble_eq_true rfl⟩, ?_⟩
         | refine ⟨⟨rfl, rfl⟩, ?_⟩
         | refine ⟨⟨rfl, (by decide)⟩, ?_⟩
         | refine ⟨⟨rfl, ?_⟩, ?_⟩
         | refine ⟨Or.inr rfl, ?_⟩
         | refine ⟨Or.inl rfl, ?_⟩
         | refine ⟨⟨⟨rfl, rfl, rfl⟩, ?_⟩, ?_⟩
         | refine ⟨_, _, rfl, row_get _ _ (by (try dsimp only); first | omega | exact lt_map (by assumption) | exact ge_map (by assumption) | (have := lt_map (by assumption); omega) | (have := ge_map (by assumption); omega) | (have := lt_mkm (by assumption); omega) | (have := ge_mkm (by assumption); omega) | (have := lt_mkr (by assumption); omega) | (have := ge_mkr (by assumption); omega) | (simp only [List.length_map, List.length_replicate] at *; omega)), rfl, ?_⟩
         | refine ⟨Or.inr (by repeat (first | exact trivial | refine ⟨rfl, ?_⟩)), ?_⟩
         | refine ⟨(?_ : _ = ([] : List (List T))), ?_⟩
         | refine ⟨_, c_IsValidDevice d h, ?_⟩
         | refine ⟨_, c_copyDevice d h, ?_⟩
         | refine ⟨_, c_NewDevice d.Saved h.2, ?_⟩
         | fail))
  all_goals (simp_all [crashD])
theorem c_sSubmitToDevice (d : DDevice) (b : List UInt8) (h : bigD d) (h2 : d.Live.Submitted.length ≤ 1048576) (h3 : d.Saved.Submitted.length ≤ 1048576) (hb : b.length ≤ 1099511627776) : FnAt Try.prog 61 [.agg (DDevice.e d), .one (L eU b)] [.agg (DDevice.r (submitD d b)), .one (.s (.bool (submitOk d b)))] := by
  refine fn_of Try.func61 rfl (by kernel_rfl) rfl ?_
  all_goals repeat' (first
    | (with_reducible rfl)
    | (conv => whnf
       first
         | exact trivial
         | (with_reducible rfl)
         | exact (rfl : (0 : Int) = ((0 : Nat) : Int))
         | exact w64_nat (by (try dsimp only); first | omega | exact lt_map (by assumption) | exact ge_map (by assumption) | (have := lt_map (by assumption); omega) | (have := ge_map (by assumption); omega) | (have := lt_mkm (by assumption); omega) | (have := ge_mkm (by assumption); omega) | (have := lt_mkr (by assumption); omega) | (have := ge_mkr (by assumption); omega) | (simp only [List.length_map, List.length_replicate] at *; omega))
         | refine bcase_T (by first | with_reducible rfl | decide) ?_
         | refine bcase_F (by first | with_reducible rfl | decide) ?_
         | refine bcase_dec (fun _ => ?_) (fun _ => ?_)
         | refine bcase_not ?_
         | refine bcase_intro (fun _ => ?_) (fun _ => ?_)
         | refine ⟨(by with_reducible rfl), ?_⟩
         | refine ⟨congrArg vi ?_, ?_⟩
         | refine ⟨congrArg vb ?_, ?_⟩
         | refine ⟨rfl, ?_⟩
         | refine ⟨(by kernel_rfl : drawOK _ = true), ?_⟩
         | refine Or.inl ?_
         | refine ⟨⟨congrArg (T.int _) ?_, rfl⟩, ?_⟩
         | refine ⟨⟨congrArg T.bool ?_, rfl⟩, ?_⟩
         | refine ⟨⟨rfl, Nat.le_of_ble_eq_true rfl⟩, ?_⟩
         | refine ⟨⟨rfl, rfl⟩, ?_⟩
         | refine ⟨⟨rfl, (by decide)⟩, ?_⟩
         | refine ⟨⟨rfl, ?_⟩, ?_⟩
         | refine ⟨Or.inr rfl, ?_⟩
         | refine ⟨Or.inl rfl, ?_⟩
         | refine ⟨⟨⟨rfl, rfl, rfl⟩, ?_⟩, ?_⟩
         | refine ⟨_, _, rfl, row_get _ _ (by (try dsimp only); first | omega | exact lt_map (by assumption) | exact ge_map (by assumption) | (have := lt_map (by assumption); omega) | (have := ge_map (by assumption); omega) | (have := lt_mkm (by assumption); omega) | (have := ge_mkm (by assumption); omega) | (have := lt_mkr (by assumption); omega) | (have := ge_mkr (by assumption); omega) | (simp only [List.length_map, List.length_replicate] at *; omega)), rfl, ?_⟩
         | refine ⟨Or.inr (by repeat (first | exact trivial | refine ⟨rfl, ?_⟩)), ?_⟩
         | refine ⟨(?_ : _ = ([] : List (List T))), ?_⟩
         | refine ⟨_, c_sQueueMessage d.Live b h.1 h2 hb, ?_⟩
         | refine ⟨_, c_sQueueMessage d.Saved b h.2 h3 hb, ?_⟩
         | refine ⟨_, c_sIsValidDevice d h, ?_⟩
         | refine ⟨_, c_l30Copy d h, ?_⟩
         | fail))
  all_goals (simp_all [submitD, submitOk, queueC])
theorem c_SubmitToDevice (d : DDevice) (b : List UInt8) (h : bigD d) (h2 : d.Live.Submitted.length ≤ 1048576) (h3 : d.Saved.Submitted.length ≤ 1048576) (hb : b.length ≤ 1099511627776) : FnAt Try.prog 63 [.agg (DDevice.e d), .one (L eU b)] [.agg (DDevice.r (submitD d b)), .one (.s (.bool (submitOk d b)))] := by
  refine fn_of Try.func63 rfl (by kernel_rfl) rfl ?_
  all_goals repeat' (first
    | (with_reducible rfl)
    | (conv => whnf
       first
         | exact trivial
         | (with_reducible rfl)
         | exact (rfl : (0 : Int) = ((0 : Nat) : Int))
         | exact w64_nat (by (try dsimp only); first | omega | exact lt_map (by assumption) | exact ge_map (by assumption) | (have := lt_map (by assumption); omega) | (have := ge_map (by assumption); omega) | (have := lt_mkm (by assumption); omega) | (have := ge_mkm (by assumption); omega) | (have := lt_mkr (by assumption); omega) | (have := ge_mkr (by assumption); omega) | (simp only [List.length_map, List.length_replicate] at *; omega))
         | refine bcase_T (by first | with_reducible rfl | decide) ?_
         | refine bcase_F (by first | with_reducible rfl | decide) ?_
         | refine bcase_dec (fun _ => ?_) (fun _ => ?_)
         | refine bcase_not ?_
         | refine bcase_intro (fun _ => ?_) (fun _ => ?_)
         | refine ⟨(by with_reducible rfl), ?_⟩
         | refine ⟨congrArg vi ?_, ?_⟩
         | refine ⟨congrArg vb ?_, ?_⟩
         | refine ⟨rfl, ?_⟩
         | refine ⟨(by kernel_rfl : drawOK _ = true), ?_⟩
         | refine Or.inl ?_
         | refine ⟨⟨congrArg (T.int _) ?_, rfl⟩, ?_⟩
         | refine ⟨⟨congrArg T.bool ?_, rfl⟩, ?_⟩
         | refine ⟨⟨rfl, Nat.le_of_ble_eq_true rfl⟩, ?_⟩
         | refine ⟨⟨rfl, rfl⟩, ?_⟩
         | refine ⟨⟨rfl, (by decide)⟩, ?_⟩
         | refine ⟨⟨rfl, ?_⟩, ?_⟩
         | refine ⟨Or.inr rfl, ?_⟩
         | refine ⟨Or.inl rfl, ?_⟩
         | refine ⟨⟨⟨rfl, rfl, rfl⟩, ?_⟩, ?_⟩
         | refine ⟨_, _, rfl, row_get _ _ (by (try dsimp only); first | omega | exact lt_map (by assumption) | exact ge_map (by assumption) | (have := lt_map (by assumption); omega) | (have := ge_map (by assumption); omega) | (have := lt_mkm (by assumption); omega) | (have := ge_mkm (by assumption); omega) | (have := lt_mkr (by assumption); omega) | (have := ge_mkr (by assumption); omega) | (simp only [List.length_map, List.length_replicate] at *; omega)), rfl, ?_⟩
         | refine ⟨Or.inr (by repeat (first | exact trivial | refine ⟨rfl, ?_⟩)), ?_⟩
         | refine ⟨(?_ : _ = ([] : List (List T))), ?_⟩
         | refine ⟨_, c_QueueMessage d.Live b h.1 h2 hb, ?_⟩
         | refine ⟨_, c_QueueMessage d.Saved b h.2 h3 hb, ?_⟩
         | refine ⟨_, c_IsValidDevice d h, ?_⟩
         | refine ⟨_, c_copyDevice d h, ?_⟩
         | fail))
  all_goals (simp_all [submitD, submitOk, queueC])
theorem saveD_sz (d : DDevice) : (saveD d).sz ≤ 2 * d.sz := by
  unfold saveD
  split <;> simp only [DDevice.sz] <;> omega
theorem crashD_sz (d : DDevice) : (crashD d).sz ≤ 2 * d.sz := by
  unfold crashD
  split <;> simp only [DDevice.sz] <;> omega
theorem submitD_sz (d : DDevice) (b : List UInt8) : (submitD d b).sz ≤ d.sz + 2 + 2 * b.length := by
  have hq : ∀ c : DClient, (queue c b).sz = c.sz + 1 + b.length := fun c => by
    simp only [queue, DClient.sz, szL, List.map_append, List.sum_append, List.length_append, List.map_cons, List.map_nil, List.sum_cons, List.sum_nil, List.length_cons, List.length_nil]; omega
  unfold submitD
  split
  · simp only [DDevice.sz, hq]; omega
  · simp only [DDevice.sz]; omega
theorem c_FnExactCrashDevice (a0 : DDevice) (k0 : DDevice.ok a0) : FnAt Try.prog 8 [.agg (DDevice.e a0)] [.one (.s (.bool true))] := by
  have hr := crashD_sz a0
  have hc0 := cnt_ByteSS (crashD a0).Live.Submitted
  have hc1 := cnt_ByteSS (crashD a0).Live.Inbox
  have hc2 := cnt_ByteSS (crashD a0).Saved.Submitted
  have hc3 := cnt_ByteSS (crashD a0).Saved.Inbox
  have hca0_0 := cnt_ByteSS a0.Live.Submitted
  have hca0_1 := cnt_ByteSS a0.Live.Inbox
  have hca0_2 := cnt_ByteSS a0.Saved.Submitted
  have hca0_3 := cnt_ByteSS a0.Saved.Inbox
  refine fn_of Try.func8 rfl (by kernel_rfl) rfl ?_
  all_goals repeat' (first
    | (with_reducible rfl)
    | (conv => whnf
       first
         | refine bcase_szS (fun _ => ?_) (fun _ _ => ?_)
         | refine bcase_F (by first | rfl | (rw [decide_eq_false_iff_not]; omega) | (refine bne_eq_false_iff_eq.2 ?_; omega)) ?_
         | (refine Or.inl ?_; (conv => whnf); first | refine ⟨_, c_sCrashDevice a0 (bigD_of (by omega)), ?_⟩ | refine ⟨_, c_CrashDevice a0 (bigD_of (by omega)), ?_⟩ | refine ⟨_, c_szDevice _ _ (by first | exact k0) (by omega), ?_⟩ | refine ⟨_, c_toDevice _ (by first | assumption | omega | (simp only [DClient.sz, DDevice.sz] at *; omega) | (simp only [List.length_map] at *; omega) | (simp only [List.length_map, DClient.sz, DDevice.sz] at *; omega)), ?_⟩ | refine ⟨_, c_eqDevice _ (by first | assumption | omega | (simp only [DClient.sz, DDevice.sz] at *; omega) | (simp only [List.length_map] at *; omega) | (simp only [List.length_map, DClient.sz, DDevice.sz] at *; omega)), ?_⟩ | refine ⟨_, c_heldDevice _ _ (by first | assumption | omega | (simp only [DClient.sz, DDevice.sz] at *; omega) | (simp only [List.length_map] at *; omega) | (simp only [List.length_map, DClient.sz, DDevice.sz] at *; omega)) (by first | assumption | omega | (simp only [DClient.sz, DDevice.sz] at *; omega) | (simp only [List.length_map] at *; omega) | (simp only [List.length_map, DClient.sz, DDevice.sz] at *; omega)), ?_⟩)
         | (refine Or.inr ⟨rfl, Or.inr ?_⟩; (conv => whnf); first | refine ⟨rfl, _, _, c_markDevice _ _ (by first | assumption | omega | (simp only [DClient.sz, DDevice.sz] at *; omega) | (simp only [List.length_map] at *; omega) | (simp only [List.length_map, DClient.sz, DDevice.sz] at *; omega)) (by first | assumption | omega | (simp only [DClient.sz, DDevice.sz] at *; omega) | (simp only [List.length_map] at *; omega) | (simp only [List.length_map, DClient.sz, DDevice.sz] at *; omega)), ?_⟩)
         | exact trivial
         | (with_reducible rfl)
         | exact (rfl : (0 : Int) = ((0 : Nat) : Int))
         | exact w64_nat (by (try dsimp only); first | omega | exact lt_map (by assumption) | exact ge_map (by assumption) | (have := lt_map (by assumption); omega) | (have := ge_map (by assumption); omega) | (have := lt_mkm (by assumption); omega) | (have := ge_mkm (by assumption); omega) | (have := lt_mkr (by assumption); omega) | (have := ge_mkr (by assumption); omega) | (simp only [List.length_map, List.length_replicate] at *; omega))
         | refine bcase_T (by first | with_reducible rfl | decide) ?_
         | refine bcase_F (by first | with_reducible rfl | decide) ?_
         | refine bcase_dec (fun _ => ?_) (fun _ => ?_)
         | refine bcase_not ?_
         | refine bcase_intro (fun _ => ?_) (fun _ => ?_)
         | refine ⟨(by with_reducible rfl), ?_⟩
         | refine ⟨congrArg vi ?_, ?_⟩
         | refine ⟨congrArg vb ?_, ?_⟩
         | refine ⟨rfl, ?_⟩
         | refine ⟨(by kernel_rfl : drawOK _ = true), ?_⟩
         | refine Or.inl ?_
         | refine ⟨⟨congrArg (T.int _) ?_, rfl⟩, ?_⟩
         | refine ⟨⟨congrArg T.bool ?_, rfl⟩, ?_⟩
         | refine ⟨⟨rfl, Nat.le_of_ble_eq_true rfl⟩, ?_⟩
         | refine ⟨⟨rfl, rfl⟩, ?_⟩
         | refine ⟨⟨rfl, (by decide)⟩, ?_⟩
         | refine ⟨⟨rfl, ?_⟩, ?_⟩
         | refine ⟨Or.inr rfl, ?_⟩
         | refine ⟨Or.inl rfl, ?_⟩
         | refine ⟨⟨⟨rfl, rfl, rfl⟩, ?_⟩, ?_⟩
         | refine ⟨_, _, rfl, row_get _ _ (by (try dsimp only); first | omega | exact lt_map (by assumption) | exact ge_map (by assumption) | (have := lt_map (by assumption); omega) | (have := ge_map (by assumption); omega) | (have := lt_mkm (by assumption); omega) | (have := ge_mkm (by assumption); omega) | (have := lt_mkr (by assumption); omega) | (have := ge_mkr (by assumption); omega) | (simp only [List.length_map, List.length_replicate] at *; omega)), rfl, ?_⟩
         | refine ⟨Or.inr (by repeat (first | exact trivial | refine ⟨rfl, ?_⟩)), ?_⟩
         | refine ⟨(?_ : _ = ([] : List (List T))), ?_⟩
         | fail))
  all_goals (first | rfl | (simp_all; done))
theorem c_FnExactSaveDevice (a0 : DDevice) (k0 : DDevice.ok a0) : FnAt Try.prog 9 [.agg (DDevice.e a0)] [.one (.s (.bool true))] := by
  have hr := saveD_sz a0
  have hc0 := cnt_ByteSS (saveD a0).Live.Submitted
  have hc1 := cnt_ByteSS (saveD a0).Live.Inbox
  have hc2 := cnt_ByteSS (saveD a0).Saved.Submitted
  have hc3 := cnt_ByteSS (saveD a0).Saved.Inbox
  have hca0_0 := cnt_ByteSS a0.Live.Submitted
  have hca0_1 := cnt_ByteSS a0.Live.Inbox
  have hca0_2 := cnt_ByteSS a0.Saved.Submitted
  have hca0_3 := cnt_ByteSS a0.Saved.Inbox
  refine fn_of Try.func9 rfl (by kernel_rfl) rfl ?_
  all_goals repeat' (first
    | (with_reducible rfl)
    | (conv => whnf
       first
         | refine bcase_szS (fun _ => ?_) (fun _ _ => ?_)
         | refine bcase_F (by first | rfl | (rw [decide_eq_false_iff_not]; omega) | (refine bne_eq_false_iff_eq.2 ?_; omega)) ?_
         | (refine Or.inl ?_; (conv => whnf); first | refine ⟨_, c_sSaveDevice a0 (bigD_of (by omega)), ?_⟩ | refine ⟨_, c_SaveDevice a0 (bigD_of (by omega)), ?_⟩ | refine ⟨_, c_szDevice _ _ (by first | exact k0) (by omega), ?_⟩ | refine ⟨_, c_toDevice _ (by first | assumption | omega | (simp only [DClient.sz, DDevice.sz] at *; omega) | (simp only [List.length_map] at *; omega) | (simp only [List.length_map, DClient.sz, DDevice.sz] at *; omega)), ?_⟩ | refine ⟨_, c_eqDevice _ (by first | assumption | omega | (simp only [DClient.sz, DDevice.sz] at *; omega) | (simp only [List.length_map] at *; omega) | (simp only [List.length_map, DClient.sz, DDevice.sz] at *; omega)), ?_⟩ | refine ⟨_, c_heldDevice _ _ (by first | assumption | omega | (simp only [DClient.sz, DDevice.sz] at *; omega) | (simp only [List.length_map] at *; omega) | (simp only [List.length_map, DClient.sz, DDevice.sz] at *; omega)) (by first | assumption | omega | (simp only [DClient.sz, DDevice.sz] at *; omega) | (simp only [List.length_map] at *; omega) | (simp only [List.length_map, DClient.sz, DDevice.sz] at *; omega)), ?_⟩)
         | (refine Or.inr ⟨rfl, Or.inr ?_⟩; (conv => whnf); first | refine ⟨rfl, _, _, c_markDevice _ _ (by first | assumption | omega | (simp only [DClient.sz, DDevice.sz] at *; omega) | (simp only [List.length_map] at *; omega) | (simp only [List.length_map, DClient.sz, DDevice.sz] at *; omega)) (by first | assumption | omega | (simp only [DClient.sz, DDevice.sz] at *; omega) | (simp only [List.length_map] at *; omega) | (simp only [List.length_map, DClient.sz, DDevice.sz] at *; omega)), ?_⟩)
         | exact trivial
         | (with_reducible rfl)
         | exact (rfl : (0 : Int) = ((0 : Nat) : Int))
         | exact w64_nat (by (try dsimp only); first | omega | exact lt_map (by assumption) | exact ge_map (by assumption) | (have := lt_map (by assumption); omega) | (have := ge_map (by assumption); omega) | (have := lt_mkm (by assumption); omega) | (have := ge_mkm (by assumption); omega) | (have := lt_mkr (by assumption); omega) | (have := ge_mkr (by assumption); omega) | (simp only [List.length_map, List.length_replicate] at *; omega))
         | refine bcase_T (by first | with_reducible rfl | decide) ?_
         | refine bcase_F (by first | with_reducible rfl | decide) ?_
         | refine bcase_dec (fun _ => ?_) (fun _ => ?_)
         | refine bcase_not ?_
         | refine bcase_intro (fun _ => ?_) (fun _ => ?_)
         | refine ⟨(by with_reducible rfl), ?_⟩
         | refine ⟨congrArg vi ?_, ?_⟩
         | refine ⟨congrArg vb ?_, ?_⟩
         | refine ⟨rfl, ?_⟩
         | refine ⟨(by kernel_rfl : drawOK _ = true), ?_⟩
         | refine Or.inl ?_
         | refine ⟨⟨congrArg (T.int _) ?_, rfl⟩, ?_⟩
         | refine ⟨⟨congrArg T.bool ?_, rfl⟩, ?_⟩
         | refine ⟨⟨rfl, Nat.le_of_ble_eq_true rfl⟩, ?_⟩
         | refine ⟨⟨rfl, rfl⟩, ?_⟩
         | refine ⟨⟨rfl, (by decide)⟩, ?_⟩
         | refine ⟨⟨rfl, ?_⟩, ?_⟩
         | refine ⟨Or.inr rfl, ?_⟩
         | refine ⟨Or.inl rfl, ?_⟩
         | refine ⟨⟨⟨rfl, rfl, rfl⟩, ?_⟩, ?_⟩
         | refine ⟨_, _, rfl, row_get _ _ (by (try dsimp only); first | omega | exact lt_map (by assumption) | exact ge_map (by assumption) | (have := lt_map (by assumption); omega) | (have := ge_map (by assumption); omega) | (have := lt_mkm (by assumption); omega) | (have := ge_mkm (by assumption); omega) | (have := lt_mkr (by assumption); omega) | (have := ge_mkr (by assumption); omega) | (simp only [List.length_map, List.length_replicate] at *; omega)), rfl, ?_⟩
         | refine ⟨Or.inr (by repeat (first | exact trivial | refine ⟨rfl, ?_⟩)), ?_⟩
         | refine ⟨(?_ : _ = ([] : List (List T))), ?_⟩
         | fail))
  all_goals (first | rfl | (simp_all; done))
theorem c_FnExactSubmitToDevice (a0 : DDevice) (a1 : (List UInt8)) (k0 : DDevice.ok a0) (_k1 : (okL okU) a1) : FnAt Try.prog 10 [.agg (DDevice.e a0), .one (L eU a1)] [.one (.s (.bool true))] := by
  have hr := submitD_sz a0 a1
  have hc0 := cnt_ByteSS (submitD a0 a1).Live.Submitted
  have hc1 := cnt_ByteSS (submitD a0 a1).Live.Inbox
  have hc2 := cnt_ByteSS (submitD a0 a1).Saved.Submitted
  have hc3 := cnt_ByteSS (submitD a0 a1).Saved.Inbox
  have hca0_0 := cnt_ByteSS a0.Live.Submitted
  have hca0_1 := cnt_ByteSS a0.Live.Inbox
  have hca0_2 := cnt_ByteSS a0.Saved.Submitted
  have hca0_3 := cnt_ByteSS a0.Saved.Inbox
  have hca1_0 := cnt_ByteS a1
  refine fn_of Try.func10 rfl (by kernel_rfl) rfl ?_
  all_goals repeat' (first
    | (with_reducible rfl)
    | (conv => whnf
       first
         | refine bcase_szS (fun _ => ?_) (fun _ _ => ?_)
         | refine bcase_F (by first | rfl | (rw [decide_eq_false_iff_not]; omega) | (refine bne_eq_false_iff_eq.2 ?_; omega)) ?_
         | (refine Or.inl ?_; (conv => whnf); first | refine ⟨_, c_sSubmitToDevice a0 a1 (bigD_of (by omega)) (by have := szL_len List.length a0.Live.Submitted; simp only [DDevice.sz, DClient.sz] at *; omega) (by have := szL_len List.length a0.Saved.Submitted; simp only [DDevice.sz, DClient.sz] at *; omega) (by simp only [List.length_map] at *; omega), ?_⟩ | refine ⟨_, c_SubmitToDevice a0 a1 (bigD_of (by omega)) (by have := szL_len List.length a0.Live.Submitted; simp only [DDevice.sz, DClient.sz] at *; omega) (by have := szL_len List.length a0.Saved.Submitted; simp only [DDevice.sz, DClient.sz] at *; omega) (by simp only [List.length_map] at *; omega), ?_⟩ | refine ⟨_, c_szDevice _ _ (by first | exact k0 | exact k1) (by omega), ?_⟩ | refine ⟨_, c_toDevice _ (by first | assumption | omega | (simp only [DClient.sz, DDevice.sz] at *; omega) | (simp only [List.length_map] at *; omega) | (simp only [List.length_map, DClient.sz, DDevice.sz] at *; omega)), ?_⟩ | refine ⟨_, c_eqDevice _ (by first | assumption | omega | (simp only [DClient.sz, DDevice.sz] at *; omega) | (simp only [List.length_map] at *; omega) | (simp only [List.length_map, DClient.sz, DDevice.sz] at *; omega)), ?_⟩ | refine ⟨_, c_heldDevice _ _ (by first | assumption | omega | (simp only [DClient.sz, DDevice.sz] at *; omega) | (simp only [List.length_map] at *; omega) | (simp only [List.length_map, DClient.sz, DDevice.sz] at *; omega)) (by first | assumption | omega | (simp only [DClient.sz, DDevice.sz] at *; omega) | (simp only [List.length_map] at *; omega) | (simp only [List.length_map, DClient.sz, DDevice.sz] at *; omega)), ?_⟩ | refine ⟨_, c_toByteS _ (by first | assumption | omega | (simp only [DClient.sz, DDevice.sz] at *; omega) | (simp only [List.length_map] at *; omega) | (simp only [List.length_map, DClient.sz, DDevice.sz] at *; omega)), ?_⟩ | refine ⟨_, c_eqByteS _ (by first | assumption | omega | (simp only [DClient.sz, DDevice.sz] at *; omega) | (simp only [List.length_map] at *; omega) | (simp only [List.length_map, DClient.sz, DDevice.sz] at *; omega)), ?_⟩)
         | (refine Or.inr ⟨rfl, Or.inr ?_⟩; (conv => whnf); first | refine ⟨rfl, _, _, c_markDevice _ _ (by first | assumption | omega | (simp only [DClient.sz, DDevice.sz] at *; omega) | (simp only [List.length_map] at *; omega) | (simp only [List.length_map, DClient.sz, DDevice.sz] at *; omega)) (by first | assumption | omega | (simp only [DClient.sz, DDevice.sz] at *; omega) | (simp only [List.length_map] at *; omega) | (simp only [List.length_map, DClient.sz, DDevice.sz] at *; omega)), ?_⟩ | refine ⟨rfl, _, _, c_markByteS _ _ (by first | assumption | omega | (simp only [DClient.sz, DDevice.sz] at *; omega) | (simp only [List.length_map] at *; omega) | (simp only [List.length_map, DClient.sz, DDevice.sz] at *; omega)) (by first | assumption | omega | (simp only [DClient.sz, DDevice.sz] at *; omega) | (simp only [List.length_map] at *; omega) | (simp only [List.length_map, DClient.sz, DDevice.sz] at *; omega)), ?_⟩)
         | exact trivial
         | (with_reducible rfl)
         | exact (rfl : (0 : Int) = ((0 : Nat) : Int))
         | exact w64_nat (by (try dsimp only); first | omega | exact lt_map (by assumption) | exact ge_map (by assumption) | (have := lt_map (by assumption); omega) | (have := ge_map (by assumption); omega) | (have := lt_mkm (by assumption); omega) | (have := ge_mkm (by assumption); omega) | (have := lt_mkr (by assumption); omega) | (have := ge_mkr (by assumption); omega) | (simp only [List.length_map] at *; omega))
         | refine bcase_T (by first | with_reducible rfl | decide) ?_
         | refine bcase_F (by first | with_reducible rfl | decide) ?_
         | refine bcase_dec (fun _ => ?_) (fun _ => ?_)
         | refine bcase_not ?_
         | refine bcase_intro (fun _ => ?_) (fun _ => ?_)
         | refine ⟨(by with_reducible rfl), ?_⟩
         | refine ⟨congrArg vi ?_, ?_⟩
         | refine ⟨congrArg vb ?_, ?_⟩
         | refine ⟨rfl, ?_⟩
         | refine ⟨(by kernel_rfl : drawOK _ = true), ?_⟩
         | refine Or.inl ?_
         | refine ⟨⟨congrArg (T.int _) ?_, rfl⟩, ?_⟩
         | refine ⟨⟨congrArg T.bool ?_, rfl⟩, ?_⟩
         | refine ⟨⟨rfl, Nat.le_of_ble_eq_true rfl⟩, ?_⟩
         | refine ⟨⟨rfl, rfl⟩, ?_⟩
         | refine ⟨⟨rfl, (by decide)⟩, ?_⟩
         | refine ⟨⟨rfl, ?_⟩, ?_⟩
         | refine ⟨Or.inr rfl, ?_⟩
         | refine ⟨Or.inl rfl, ?_⟩
         | refine ⟨⟨⟨rfl, rfl, rfl⟩, ?_⟩, ?_⟩
         | refine ⟨_, _, rfl, row_get _ _ (by (try dsimp only); first | omega | exact lt_map (by assumption) | exact ge_map (by assumption) | (have := lt_map (by assumption); omega) | (have := ge_map (by assumption); omega) | (have := lt_mkm (by assumption); omega) | (have := ge_mkm (by assumption); omega) | (have := lt_mkr (by assumption); omega) | (have := ge_mkr (by assumption); omega) | (simp only [List.length_map, List.length_replicate] at *; omega)), rfl, ?_⟩
         | refine ⟨Or.inr (by repeat (first | exact trivial | refine ⟨rfl, ?_⟩)), ?_⟩
         | refine ⟨(?_ : _ = ([] : List (List T))), ?_⟩
         | fail))
  all_goals (first | rfl | (simp_all; done))
end Go.Proofs.Ytnfamcbeoihpiaa
