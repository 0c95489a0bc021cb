/-
  Contracts: reading on a device; the laws of reading.
  Conditions: none.
-/
import Derived.Test.YteecgbgdmfjogaaGreatFnReS
import Derived.Test.YteecgbgdmfjogaaGreatFnF
namespace Go.Proofs.YteecgbgdmfjogaaGreat
set_option maxHeartbeats 4000000
set_option maxRecDepth 20000
open Go.Vm Go.RowKit
attribute [local irreducible] FnAt MutAt InAt JAt CurAt FnE CurE RegAt

attribute [local irreducible] readC readsOk saveD needsSave devOk
def readDOk (d : DDevice) (r : Int) : Bool := devOk d && readsOk d.Live r
def readD (d : DDevice) (r : Int) (own other : List UInt8) : DDevice := if readDOk d r then (if needsSave ⟨readC d.Live r own other, d.Saved⟩ then saveD ⟨readC d.Live r own other, d.Saved⟩ else ⟨readC d.Live r own other, d.Saved⟩) else d
theorem c_sReadOnDevice (d : DDevice) (r : Int) (own other : List UInt8) (hb : bigD d) (ho : own.length ≤ 1099511627776) (ht : other.length ≤ 1099511627776) : FnAt Tryz.prog 130 [.agg (DDevice.e d), .one (I r), .one (L eU own), .one (L eU other)] [.agg (DDevice.r (readD d r own other)), .one (.s (.bool (readDOk d r)))] := by
  have hx : bigD ⟨readC d.Live r own other, d.Saved⟩ := ⟨readC_big r own other hb.1, hb.2⟩
  refine fn_of Tryz.func130 rfl (by kernel_rfl) rfl ?_
  all_goals repeat' (first | (with_reducible rfl) | ((conv => whnf); first | exact trivial | (with_reducible rfl) | exact (rfl : (0 : Int) = ((0 : Nat) : Int)) | exact w64_nat arith | refine bcase_T (by first | with_reducible rfl | decide) ?_ | refine bcase_F (by first | with_reducible rfl | decide) ?_ | refine bcase_dec (fun _ => ?_) (fun _ => ?_) | refine bcase_not ?_ | refine bcase_intro (fun _ => ?_) (fun _ => ?_) | refine ⟨(by with_reducible rfl), ?_⟩ | refine ⟨congrArg vi ?_, ?_⟩ | refine ⟨congrArg vb ?_, ?_⟩ | refine ⟨rfl, ?_⟩ | refine ⟨(by kernel_rfl : drawOK _ = true), ?_⟩ | refine Or.inl ?_ | refine ⟨⟨congrArg (T.int _) ?_, rfl⟩, ?_⟩ | refine ⟨⟨congrArg T.bool ?_, rfl⟩, ?_⟩ | refine ⟨⟨rfl, Nat.le_of_ble_eq_true rfl⟩, ?_⟩ | refine ⟨⟨rfl, rfl⟩, ?_⟩ | refine ⟨⟨rfl, (by decide)⟩, ?_⟩ | refine ⟨⟨rfl, ?_⟩, ?_⟩ | refine ⟨Or.inr rfl, ?_⟩ | refine ⟨Or.inl rfl, ?_⟩ | refine ⟨⟨⟨rfl, rfl, rfl⟩, ?_⟩, ?_⟩ | refine ⟨_, _, rfl, row_get _ _ arith, rfl, ?_⟩ | refine ⟨Or.inr (by repeat (first | exact trivial | refine ⟨rfl, ?_⟩)), ?_⟩ | refine ⟨(?_ : _ = ([] : List (List T))), ?_⟩ | refine ⟨_, c_sClientRead d.Live r own other hb.1 ho ht, ?_⟩ | refine ⟨_, c_sIsValidDevice d hb, ?_⟩ | refine ⟨_, c_l30Copy d hb, ?_⟩ | refine ⟨_, c_l29Copy d.Saved hb.2, ?_⟩ | refine ⟨_, c_sNeedsSave ⟨readC d.Live r own other, d.Saved⟩ hx, ?_⟩ | refine ⟨_, c_sSaveDevice ⟨readC d.Live r own other, d.Saved⟩ hx, ?_⟩ | fail))
  all_goals (simp_all [readD, readDOk])
end Go.Proofs.YteecgbgdmfjogaaGreat
