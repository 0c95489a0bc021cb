/-
  Contracts: devices.
  Conditions: none.
-/
import Derived.Test.YtmaamiapipngaaaGreatFnC
namespace Go.Proofs.YtmaamiapipngaaaGreat
set_option maxHeartbeats 4000000
set_option maxRecDepth 20000
open Go.Vm Go.RowKit
attribute [local irreducible] FnAt MutAt InAt JAt CurAt FnE CurE RegAt

/-- The first elements of another list. -/
def isPre (a b : List (List UInt8)) : Bool := decide ((a.length : Int) ≤ (b.length : Int)) && (a == b.take a.length)
theorem c_isPrefix (a b : List (List UInt8)) (hx : a.length ≤ 1099511627776) (hs : ∀ x ∈ a, x.length ≤ 1099511627776) : FnAt Tryz.prog 101 [.one (L (eL eU) a), .one (L (eL eU) b)] [.one (.s (.bool (isPre a b)))] := by
  refine fn_of Tryz.func101 rfl (by kernel_rfl) rfl ?_
  all_goals repeat' (first | (with_reducible rfl) | ((conv => whnf); first | exact trivial | (with_reducible rfl) | exact (rfl : (0 : Int) = ((0 : Nat) : Int)) | exact w64_nat arith | refine bcase_T (by first | with_reducible rfl | decide) ?_ | refine bcase_F (by first | with_reducible rfl | decide) ?_ | refine bcase_dec (fun _ => ?_) (fun _ => ?_) | refine bcase_not ?_ | refine bcase_intro (fun _ => ?_) (fun _ => ?_) | refine ⟨(by with_reducible rfl), ?_⟩ | refine ⟨congrArg vi ?_, ?_⟩ | refine ⟨congrArg vb ?_, ?_⟩ | refine ⟨rfl, ?_⟩ | refine ⟨(by kernel_rfl : drawOK _ = true), ?_⟩ | refine Or.inl ?_ | refine ⟨⟨congrArg (T.int _) ?_, rfl⟩, ?_⟩ | refine ⟨⟨congrArg T.bool ?_, rfl⟩, ?_⟩ | refine ⟨⟨rfl, Nat.le_of_ble_eq_true rfl⟩, ?_⟩ | refine ⟨⟨rfl, rfl⟩, ?_⟩ | refine ⟨⟨rfl, (by decide)⟩, ?_⟩ | refine ⟨⟨rfl, ?_⟩, ?_⟩ | refine ⟨Or.inr rfl, ?_⟩ | refine ⟨Or.inl rfl, ?_⟩ | refine ⟨⟨⟨rfl, rfl, rfl⟩, ?_⟩, ?_⟩ | refine ⟨_, _, rfl, row_get _ _ arith, rfl, ?_⟩ | refine ⟨Or.inr (by repeat (first | exact trivial | refine ⟨rfl, ?_⟩)), ?_⟩ | refine ⟨(?_ : _ = ([] : List (List T))), ?_⟩ | refine ⟨0, _, rfl, rfl, ⟨Nat.zero_le _, (by simp only [List.length_map] at *; omega)⟩, lenL _ _, ?_⟩ | refine ⟨_, fn_args (c_EqualLists a (b.take a.length) hx hs) (by simp), ?_⟩ | fail))
  all_goals (simp_all [isPre] <;> (intros; omega))
def bigD (d : DDevice) : Prop := bigC d.Live ∧ bigC d.Saved
def devOk (d : DDevice) : Bool := clientOk d.Live && clientOk d.Saved && sameOwner d.Live d.Saved && decide (d.Saved.Sent ≤ d.Live.Sent) && decide (d.Saved.Next ≤ d.Live.Next) && isPre d.Saved.Inbox d.Live.Inbox
def devEq (a b : DDevice) : Bool := clientEq a.Live b.Live && clientEq a.Saved b.Saved
def needsSave (d : DDevice) : Bool := devOk d && decide (4 ≤ w64 (d.Live.Next - d.Saved.Next))
theorem bigD_of {d : DDevice} (h : d.sz ≤ 1099511627776) : bigD d := ⟨bigC_of (by simp only [DDevice.sz, DClient.sz] at h; omega), bigC_of (by simp only [DDevice.sz, DClient.sz] at h; omega)⟩
theorem c_sIsValidDevice (d : DDevice) (h : bigD d) : FnAt Tryz.prog 83 [.agg (DDevice.e d)] [.one (.s (.bool (devOk d)))] := by
  refine fn_of Tryz.func83 rfl (by kernel_rfl) rfl ?_
  all_goals repeat' (first | (with_reducible rfl) | ((conv => whnf); first | exact trivial | (with_reducible rfl) | exact (rfl : (0 : Int) = ((0 : Nat) : Int)) | exact w64_nat arith | refine bcase_T (by first | with_reducible rfl | decide) ?_ | refine bcase_F (by first | with_reducible rfl | decide) ?_ | refine bcase_dec (fun _ => ?_) (fun _ => ?_) | refine bcase_not ?_ | refine bcase_intro (fun _ => ?_) (fun _ => ?_) | refine ⟨(by with_reducible rfl), ?_⟩ | refine ⟨congrArg vi ?_, ?_⟩ | refine ⟨congrArg vb ?_, ?_⟩ | refine ⟨rfl, ?_⟩ | refine ⟨(by kernel_rfl : drawOK _ = true), ?_⟩ | refine Or.inl ?_ | refine ⟨⟨congrArg (T.int _) ?_, rfl⟩, ?_⟩ | refine ⟨⟨congrArg T.bool ?_, rfl⟩, ?_⟩ | refine ⟨⟨rfl, Nat.le_of_ble_eq_true rfl⟩, ?_⟩ | refine ⟨⟨rfl, rfl⟩, ?_⟩ | refine ⟨⟨rfl, (by decide)⟩, ?_⟩ | refine ⟨⟨rfl, ?_⟩, ?_⟩ | refine ⟨Or.inr rfl, ?_⟩ | refine ⟨Or.inl rfl, ?_⟩ | refine ⟨⟨⟨rfl, rfl, rfl⟩, ?_⟩, ?_⟩ | refine ⟨_, _, rfl, row_get _ _ arith, rfl, ?_⟩ | refine ⟨Or.inr (by repeat (first | exact trivial | refine ⟨rfl, ?_⟩)), ?_⟩ | refine ⟨(?_ : _ = ([] : List (List T))), ?_⟩ | refine ⟨_, c_sIsValidClient d.Live h.1, ?_⟩ | refine ⟨_, c_sIsValidClient d.Saved h.2, ?_⟩ | refine ⟨_, c_sEqualLists d.Live.Submitted d.Saved.Submitted h.1.1.1, ?_⟩ | refine ⟨0, _, rfl, rfl, ⟨Nat.zero_le _, (by simp only [List.length_map] at *; omega)⟩, lenL _ _, ?_⟩ | refine ⟨_, fn_args (c_sEqualLists d.Saved.Inbox (d.Live.Inbox.take d.Saved.Inbox.length) h.2.2.1) (by simp), ?_⟩ | fail))
  all_goals (simp_all [devOk, sameOwner, isPre] <;> (intros; omega))
theorem c_IsValidDevice (d : DDevice) (h : bigD d) : FnAt Tryz.prog 63 [.agg (DDevice.e d)] [.one (.s (.bool (devOk d)))] := by
  refine fn_of Tryz.func63 rfl (by kernel_rfl) rfl ?_
  all_goals repeat' (first | (with_reducible rfl) | ((conv => whnf); first | exact trivial | (with_reducible rfl) | exact (rfl : (0 : Int) = ((0 : Nat) : Int)) | exact w64_nat arith | refine bcase_T (by first | with_reducible rfl | decide) ?_ | refine bcase_F (by first | with_reducible rfl | decide) ?_ | refine bcase_dec (fun _ => ?_) (fun _ => ?_) | refine bcase_not ?_ | refine bcase_intro (fun _ => ?_) (fun _ => ?_) | refine ⟨(by with_reducible rfl), ?_⟩ | refine ⟨congrArg vi ?_, ?_⟩ | refine ⟨congrArg vb ?_, ?_⟩ | refine ⟨rfl, ?_⟩ | refine ⟨(by kernel_rfl : drawOK _ = true), ?_⟩ | refine Or.inl ?_ | refine ⟨⟨congrArg (T.int _) ?_, rfl⟩, ?_⟩ | refine ⟨⟨congrArg T.bool ?_, rfl⟩, ?_⟩ | refine ⟨⟨rfl, Nat.le_of_ble_eq_true rfl⟩, ?_⟩ | refine ⟨⟨rfl, rfl⟩, ?_⟩ | refine ⟨⟨rfl, (by decide)⟩, ?_⟩ | refine ⟨⟨rfl, ?_⟩, ?_⟩ | refine ⟨Or.inr rfl, ?_⟩ | refine ⟨Or.inl rfl, ?_⟩ | refine ⟨⟨⟨rfl, rfl, rfl⟩, ?_⟩, ?_⟩ | refine ⟨_, _, rfl, row_get _ _ arith, rfl, ?_⟩ | refine ⟨Or.inr (by repeat (first | exact trivial | refine ⟨rfl, ?_⟩)), ?_⟩ | refine ⟨(?_ : _ = ([] : List (List T))), ?_⟩ | refine ⟨_, c_IsValidClient d.Live h.1, ?_⟩ | refine ⟨_, c_IsValidClient d.Saved h.2, ?_⟩ | refine ⟨_, c_sameOwner d.Live d.Saved h.1, ?_⟩ | refine ⟨_, c_isPrefix d.Saved.Inbox d.Live.Inbox h.2.2.1 h.2.2.2, ?_⟩ | fail))
  all_goals (simp_all [devOk] <;> (intros; omega))
end Go.Proofs.YtmaamiapipngaaaGreat
