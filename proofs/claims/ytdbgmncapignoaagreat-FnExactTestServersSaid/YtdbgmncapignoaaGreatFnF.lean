/-
  Contracts: devices that are copied, saved, crashed, submitted to.
  Conditions: none.
-/
import Derived.Test.YtdbgmncapignoaaGreatFnE
import Derived.Test.YtdbgmncapignoaaGreatFnQ
namespace Go.Proofs.YtdbgmncapignoaaGreat
set_option maxHeartbeats 4000000
set_option maxRecDepth 20000
open Go.Vm Go.RowKit
attribute [local irreducible] FnAt MutAt InAt JAt CurAt

def saveD (d : DDevice) : DDevice := if devOk d then ⟨d.Live, d.Live⟩ else d
def crashD (d : DDevice) : DDevice := if devOk d then ⟨d.Saved, d.Saved⟩ else d
def submitOk (d : DDevice) (b : List UInt8) : Bool := devOk d && queued d.Live b && queued d.Saved b
def submitD (d : DDevice) (b : List UInt8) : DDevice := if submitOk d b then ⟨queue d.Live b, queue d.Saved b⟩ else d
theorem c_l30Copy (d : DDevice) (h : bigD d) : FnAt Tryz.prog 120 [.agg (DDevice.e d)] [.agg (DDevice.r d)] := by
  refine fn_of Tryz.func120 rfl (by kernel_rfl) rfl ?_
  all_goals repeat' (first
    | (with_reducible rfl)
    | (conv => whnf
       first
         | exact trivial
         | (with_reducible rfl)
         | exact (rfl : (0 : Int) = ((0 : Nat) : Int))
         | exact w64_nat arith
         | refine bcase_T (by first | with_reducible rfl | decide) ?_
         | refine bcase_F (by first | with_reducible rfl | decide) ?_
         | refine bcase_dec (fun _ => ?_) (fun _ => ?_)
         | refine bcase_not ?_
         | refine bcase_intro (fun _ => ?_) (fun _ => ?_)
         | refine ⟨(by with_reducible rfl), ?_⟩
         | refine ⟨congrArg vi ?_, ?_⟩
         | refine ⟨congrArg vb ?_, ?_⟩
         | refine ⟨rfl, ?_⟩
         | refine ⟨(by kernel_rfl : drawOK _ = true), ?_⟩
         | refine Or.inl ?_
         | refine ⟨⟨congrArg (T.int _) ?_, rfl⟩, ?_⟩
         | refine ⟨⟨congrArg T.bool ?_, rfl⟩, ?_⟩
         | refine ⟨⟨rfl, Nat.le_of_ble_eq_true rfl⟩, ?_⟩
         | refine ⟨⟨rfl, rfl⟩, ?_⟩
         | refine ⟨⟨rfl, (by decide)⟩, ?_⟩
         | refine ⟨⟨rfl, ?_⟩, ?_⟩
         | refine ⟨Or.inr rfl, ?_⟩
         | refine ⟨Or.inl rfl, ?_⟩
         | refine ⟨⟨⟨rfl, rfl, rfl⟩, ?_⟩, ?_⟩
         | refine ⟨_, _, rfl, row_get _ _ arith, rfl, ?_⟩
         | refine ⟨Or.inr (by repeat (first | exact trivial | refine ⟨rfl, ?_⟩)), ?_⟩
         | refine ⟨(?_ : _ = ([] : List (List T))), ?_⟩
         | refine ⟨_, c_l29Copy d.Live h.1, ?_⟩
         | refine ⟨_, c_l29Copy d.Saved h.2, ?_⟩
         | fail))
  all_goals rfl
theorem c_copyDevice (d : DDevice) (h : bigD d) : FnAt Tryz.prog 131 [.agg (DDevice.e d)] [.agg (DDevice.r d)] := by
  refine fn_of Tryz.func131 rfl (by kernel_rfl) rfl ?_
  all_goals repeat' (first
    | (with_reducible rfl)
    | (conv => whnf
       first
         | exact trivial
         | (with_reducible rfl)
         | exact (rfl : (0 : Int) = ((0 : Nat) : Int))
         | exact w64_nat arith
         | refine bcase_T (by first | with_reducible rfl | decide) ?_
         | refine bcase_F (by first | with_reducible rfl | decide) ?_
         | refine bcase_dec (fun _ => ?_) (fun _ => ?_)
         | refine bcase_not ?_
         | refine bcase_intro (fun _ => ?_) (fun _ => ?_)
         | refine ⟨(by with_reducible rfl), ?_⟩
         | refine ⟨congrArg vi ?_, ?_⟩
         | refine ⟨congrArg vb ?_, ?_⟩
         | refine ⟨rfl, ?_⟩
         | refine ⟨(by kernel_rfl : drawOK _ = true), ?_⟩
         | refine Or.inl ?_
         | refine ⟨⟨congrArg (T.int _) ?_, rfl⟩, ?_⟩
         | refine ⟨⟨congrArg T.bool ?_, rfl⟩, ?_⟩
         | refine ⟨⟨rfl, Nat.le_of_ble_eq_true rfl⟩, ?_⟩
         | refine ⟨⟨rfl, rfl⟩, ?_⟩
         | refine ⟨⟨rfl, (by decide)⟩, ?_⟩
         | refine ⟨⟨rfl, ?_⟩, ?_⟩
         | refine ⟨Or.inr rfl, ?_⟩
         | refine ⟨Or.inl rfl, ?_⟩
         | refine ⟨⟨⟨rfl, rfl, rfl⟩, ?_⟩, ?_⟩
         | refine ⟨_, _, rfl, row_get _ _ arith, rfl, ?_⟩
         | refine ⟨Or.inr (by repeat (first | exact trivial | refine ⟨rfl, ?_⟩)), ?_⟩
         | refine ⟨(?_ : _ = ([] : List (List T))), ?_⟩
         | refine ⟨_, c_copyClient d.Live h.1, ?_⟩
         | refine ⟨_, c_copyClient d.Saved h.2, ?_⟩
         | fail))
  all_goals rfl
theorem saveD_sz (d : DDevice) : (saveD d).sz ≤ 2 * d.sz := by
  unfold saveD
  split <;> simp only [DDevice.sz] <;> omega
theorem crashD_sz (d : DDevice) : (crashD d).sz ≤ 2 * d.sz := by
  unfold crashD
  split <;> simp only [DDevice.sz] <;> omega
theorem submitD_sz (d : DDevice) (b : List UInt8) : (submitD d b).sz ≤ d.sz + 2 + 2 * b.length := by
  have hq : ∀ c : DClient, (queue c b).sz = c.sz + 1 + b.length := fun c => by
    simp only [queue, DClient.sz, szL, List.map_append, List.sum_append, List.length_append, List.map_cons, List.map_nil, List.sum_cons, List.sum_nil, List.length_cons, List.length_nil]; omega
  unfold submitD
  split
  · simp only [DDevice.sz, hq]; omega
  · simp only [DDevice.sz]; omega
end Go.Proofs.YtdbgmncapignoaaGreat
