/-
  Contracts: devices.
  Conditions: none.
-/
import Derived.Test.YtpnmifgfmdehhaaFnC
namespace Go.Proofs.Ytpnmifgfmdehhaa
set_option maxHeartbeats 1000000
set_option maxRecDepth 20000
open Go.Vm Go.RowKit
attribute [local irreducible] FnAt MutAt InAt

/-- The first elements of another list. -/
def isPre (a b : List (List UInt8)) : Bool := decide ((a.length : Int) ≤ (b.length : Int)) && (a == b.take a.length)
theorem c_isPrefix (a b : List (List UInt8)) (hx : a.length ≤ 1099511627776) (hs : ∀ x ∈ a, x.length ≤ 1099511627776) : FnAt Try.prog 89 [.one (L (eL eU) a), .one (L (eL eU) b)] [.one (.s (.bool (isPre a b)))] := by
  refine fn_of Try.func89 rfl (by kernel_rfl) rfl ?_
  all_goals repeat' (first
    | (with_reducible rfl)
    | (conv => whnf
       first
         | exact trivial
         | (with_reducible rfl)
         | exact (rfl : (0 : Int) = ((0 : Nat) : Int))
         | exact w64_nat (by (try dsimp only); first | omega | exact lt_map (by assumption) | exact ge_map (by assumption) | (have := lt_map (by assumption); omega) | (have := ge_map (by assumption); omega) | (have := lt_mkm (by assumption); omega) | (have := ge_mkm (by assumption); omega) | (have := lt_mkr (by assumption); omega) | (have := ge_mkr (by assumption); omega) | (simp only [List.length_map] at *; omega))
         | refine bcase_T (by first | with_reducible rfl | decide) ?_
         | refine bcase_F (by first | with_reducible rfl | decide) ?_
         | refine bcase_dec (fun _ => ?_) (fun _ => ?_)
         | refine bcase_not ?_
         | refine bcase_intro (fun _ => ?_) (fun _ => ?_)
         | refine ⟨(by with_reducible rfl), ?_⟩
         | refine ⟨congrArg vi ?_, ?_⟩
         | refine ⟨congrArg vb ?_, ?_⟩
         | refine ⟨rfl, ?_⟩
         | refine ⟨(by kernel_rfl : drawOK _ = true), ?_⟩
         | refine Or.inl ?_
         | refine ⟨⟨congrArg (T.int _) ?_, rfl⟩, ?_⟩
         | refine ⟨⟨congrArg T.bool ?_, rfl⟩, ?_⟩
         | refine ⟨⟨rfl, Nat.le_of_ble_eq_true rfl⟩, ?_⟩
         | refine ⟨⟨rfl, rfl⟩, ?_⟩
         | refine ⟨⟨rfl, (by decide)⟩, ?_⟩
         | refine ⟨⟨rfl, ?_⟩, ?_⟩
         | refine ⟨Or.inr rfl, ?_⟩
         | refine ⟨Or.inl rfl, ?_⟩
         | refine ⟨⟨⟨rfl, rfl, rfl⟩, ?_⟩, ?_⟩
         | refine ⟨_, _, rfl, row_get _ _ (by (try dsimp only); first | omega | exact lt_map (by assumption) | exact ge_map (by assumption) | (have := lt_map (by assumption); omega) | (have := ge_map (by assumption); omega) | (have := lt_mkm (by assumption); omega) | (have := ge_mkm (by assumption); omega) | (have := lt_mkr (by assumption); omega) | (have := ge_mkr (by assumption); omega) | (simp only [List.length_map, List.length_replicate] at *; omega)), rfl, ?_⟩
         | refine ⟨(?_ : _ = ([] : List (List T))), ?_⟩
         | refine ⟨0, _, rfl, rfl, ⟨Nat.zero_le _, (by simp only [List.length_map] at *; omega)⟩, lenL _ _, ?_⟩
         | refine ⟨_, fn_args (c_EqualLists a (b.take a.length) hx hs) (by simp), ?_⟩
         | fail))
  all_goals (simp_all [isPre] <;> (intros; omega))
def bigD (d : DDevice) : Prop := bigC d.Live ∧ bigC d.Saved
def devOk (d : DDevice) : Bool := clientOk d.Live && clientOk d.Saved && sameOwner d.Live d.Saved && decide (d.Saved.Sent ≤ d.Live.Sent) && decide (d.Saved.Next ≤ d.Live.Next) && isPre d.Saved.Inbox d.Live.Inbox
def devEq (a b : DDevice) : Bool := clientEq a.Live b.Live && clientEq a.Saved b.Saved
def needsSave (d : DDevice) : Bool := devOk d && decide (4 ≤ w64 (d.Live.Next - d.Saved.Next))
theorem bigD_of {d : DDevice} (h : d.sz ≤ 1099511627776) : bigD d := ⟨bigC_of (by simp only [DDevice.sz, DClient.sz] at h; omega), bigC_of (by simp only [DDevice.sz, DClient.sz] at h; omega)⟩
theorem c_sEqualDevices (a b : DDevice) (h : bigD a) : FnAt Try.prog 28 [.agg (DDevice.e a), .agg (DDevice.e b)] [.one (.s (.bool (devEq a b)))] := by
  refine fn_of Try.func28 rfl (by kernel_rfl) rfl ?_
  all_goals repeat' (first
    | (with_reducible rfl)
    | (conv => whnf
       first
         | exact trivial
         | (with_reducible rfl)
         | exact (rfl : (0 : Int) = ((0 : Nat) : Int))
         | exact w64_nat (by (try dsimp only); first | omega | exact lt_map (by assumption) | exact ge_map (by assumption) | (have := lt_map (by assumption); omega) | (have := ge_map (by assumption); omega) | (have := lt_mkm (by assumption); omega) | (have := ge_mkm (by assumption); omega) | (have := lt_mkr (by assumption); omega) | (have := ge_mkr (by assumption); omega) | (simp only [List.length_map, List.length_replicate] at *; omega))
         | refine bcase_T (by first | with_reducible rfl | decide) ?_
         | refine bcase_F (by first | with_reducible rfl | decide) ?_
         | refine bcase_dec (fun _ => ?_) (fun _ => ?_)
         | refine bcase_not ?_
         | refine bcase_intro (fun _ => ?_) (fun _ => ?_)
         | refine ⟨(by with_reducible rfl), ?_⟩
         | refine ⟨congrArg vi ?_, ?_⟩
         | refine ⟨congrArg vb ?_, ?_⟩
         | refine ⟨rfl, ?_⟩
         | refine ⟨(by kernel_rfl : drawOK _ = true), ?_⟩
         | refine Or.inl ?_
         | refine ⟨⟨congrArg (T.int _) ?_, rfl⟩, ?_⟩
         | refine ⟨⟨congrArg T.bool ?_, rfl⟩, ?_⟩
         | refine ⟨⟨rfl, Nat.le_of_ble_eq_true rfl⟩, ?_⟩
         | refine ⟨⟨rfl, rfl⟩, ?_⟩
         | refine ⟨⟨rfl, (by decide)⟩, ?_⟩
         | refine ⟨⟨rfl, ?_⟩, ?_⟩
         | refine ⟨Or.inr rfl, ?_⟩
         | refine ⟨Or.inl rfl, ?_⟩
         | refine ⟨⟨⟨rfl, rfl, rfl⟩, ?_⟩, ?_⟩
         | refine ⟨_, _, rfl, row_get _ _ (by (try dsimp only); first | omega | exact lt_map (by assumption) | exact ge_map (by assumption) | (have := lt_map (by assumption); omega) | (have := ge_map (by assumption); omega) | (have := lt_mkm (by assumption); omega) | (have := ge_mkm (by assumption); omega) | (have := lt_mkr (by assumption); omega) | (have := ge_mkr (by assumption); omega) | (simp only [List.length_map, List.length_replicate] at *; omega)), rfl, ?_⟩
         | refine ⟨(?_ : _ = ([] : List (List T))), ?_⟩
         | refine ⟨_, c_sEqualClients a.Live b.Live h.1, ?_⟩
         | refine ⟨_, c_sEqualClients a.Saved b.Saved h.2, ?_⟩
         | fail))
  all_goals (simp_all [devEq] <;> (intros; omega))
theorem c_EqualDevices (a b : DDevice) (h : bigD a) : FnAt Try.prog 30 [.agg (DDevice.e a), .agg (DDevice.e b)] [.one (.s (.bool (devEq a b)))] := by
  refine fn_of Try.func30 rfl (by kernel_rfl) rfl ?_
  all_goals repeat' (first
    | (with_reducible rfl)
    | (conv => whnf
       first
         | exact trivial
         | (with_reducible rfl)
         | exact (rfl : (0 : Int) = ((0 : Nat) : Int))
         | exact w64_nat (by (try dsimp only); first | omega | exact lt_map (by assumption) | exact ge_map (by assumption) | (have := lt_map (by assumption); omega) | (have := ge_map (by assumption); omega) | (have := lt_mkm (by assumption); omega) | (have := ge_mkm (by assumption); omega) | (have := lt_mkr (by assumption); omega) | (have := ge_mkr (by assumption); omega) | (simp only [List.length_map, List.length_replicate] at *; omega))
         | refine bcase_T (by first | with_reducible rfl | decide) ?_
         | refine bcase_F (by first | with_reducible rfl | decide) ?_
         | refine bcase_dec (fun _ => ?_) (fun _ => ?_)
         | refine bcase_not ?_
         | refine bcase_intro (fun _ => ?_) (fun _ => ?_)
         | refine ⟨(by with_reducible rfl), ?_⟩
         | refine ⟨congrArg vi ?_, ?_⟩
         | refine ⟨congrArg vb ?_, ?_⟩
         | refine ⟨rfl, ?_⟩
         | refine ⟨(by kernel_rfl : drawOK _ = true), ?_⟩
         | refine Or.inl ?_
         | refine ⟨⟨congrArg (T.int _) ?_, rfl⟩, ?_⟩
         | refine ⟨⟨congrArg T.bool ?_, rfl⟩, ?_⟩
         | refine ⟨⟨rfl, Nat.le_of_ble_eq_true rfl⟩, ?_⟩
         | refine ⟨⟨rfl, rfl⟩, ?_⟩
         | refine ⟨⟨rfl, (by decide)⟩, ?_⟩
         | refine ⟨⟨rfl, ?_⟩, ?_⟩
         | refine ⟨Or.inr rfl, ?_⟩
         | refine ⟨Or.inl rfl, ?_⟩
         | refine ⟨⟨⟨rfl, rfl, rfl⟩, ?_⟩, ?_⟩
         | refine ⟨_, _, rfl, row_get _ _ (by (try dsimp only); first | omega | exact lt_map (by assumption) | exact ge_map (by assumption) | (have := lt_map (by assumption); omega) | (have := ge_map (by assumption); omega) | (have := lt_mkm (by assumption); omega) | (have := ge_mkm (by assumption); omega) | (have := lt_mkr (by assumption); omega) | (have := ge_mkr (by assumption); omega) | (simp only [List.length_map, List.length_replicate] at *; omega)), rfl, ?_⟩
         | refine ⟨(?_ : _ = ([] : List (List T))), ?_⟩
         | refine ⟨_, c_EqualClients a.Live b.Live h.1, ?_⟩
         | refine ⟨_, c_EqualClients a.Saved b.Saved h.2, ?_⟩
         | fail))
  all_goals (simp_all [devEq] <;> (intros; omega))
theorem c_sNewDevice (c : DClient) (h : bigC c) : FnAt Try.prog 38 [.agg (DClient.e c)] [.agg (DDevice.r ⟨c, c⟩)] := by
  refine fn_of Try.func38 rfl (by kernel_rfl) rfl ?_
  all_goals repeat' (first
    | (with_reducible rfl)
    | (conv => whnf
       first
         | exact trivial
         | (with_reducible rfl)
         | exact (rfl : (0 : Int) = ((0 : Nat) : Int))
         | exact w64_nat (by (try dsimp only); first | omega | exact lt_map (by assumption) | exact ge_map (by assumption) | (have := lt_map (by assumption); omega) | (have := ge_map (by assumption); omega) | (have := lt_mkm (by assumption); omega) | (have := ge_mkm (by assumption); omega) | (have := lt_mkr (by assumption); omega) | (have := ge_mkr (by assumption); omega) | (simp only [List.length_map, List.length_replicate] at *; omega))
         | refine bcase_T (by first | with_reducible rfl | decide) ?_
         | refine bcase_F (by first | with_reducible rfl | decide) ?_
         | refine bcase_dec (fun _ => ?_) (fun _ => ?_)
         | refine bcase_not ?_
         | refine bcase_intro (fun _ => ?_) (fun _ => ?_)
         | refine ⟨(by with_reducible rfl), ?_⟩
         | refine ⟨congrArg vi ?_, ?_⟩
         | refine ⟨congrArg vb ?_, ?_⟩
         | refine ⟨rfl, ?_⟩
         | refine ⟨(by kernel_rfl : drawOK _ = true), ?_⟩
         | refine Or.inl ?_
         | refine ⟨⟨congrArg (T.int _) ?_, rfl⟩, ?_⟩
         | refine ⟨⟨congrArg T.bool ?_, rfl⟩, ?_⟩
         | refine ⟨⟨rfl, Nat.le_of_ble_eq_true rfl⟩, ?_⟩
         | refine ⟨⟨rfl, rfl⟩, ?_⟩
         | refine ⟨⟨rfl, (by decide)⟩, ?_⟩
         | refine ⟨⟨rfl, ?_⟩, ?_⟩
         | refine ⟨Or.inr rfl, ?_⟩
         | refine ⟨Or.inl rfl, ?_⟩
         | refine ⟨⟨⟨rfl, rfl, rfl⟩, ?_⟩, ?_⟩
         | refine ⟨_, _, rfl, row_get _ _ (by (try dsimp only); first | omega | exact lt_map (by assumption) | exact ge_map (by assumption) | (have := lt_map (by assumption); omega) | (have := ge_map (by assumption); omega) | (have := lt_mkm (by assumption); omega) | (have := ge_mkm (by assumption); omega) | (have := lt_mkr (by assumption); omega) | (have := ge_mkr (by assumption); omega) | (simp only [List.length_map, List.length_replicate] at *; omega)), rfl, ?_⟩
         | refine ⟨(?_ : _ = ([] : List (List T))), ?_⟩
         | refine ⟨_, c_l29Copy c h, ?_⟩
         | fail))
  all_goals rfl
theorem c_NewDevice (c : DClient) (h : bigC c) : FnAt Try.prog 39 [.agg (DClient.e c)] [.agg (DDevice.r ⟨c, c⟩)] := by
  refine fn_of Try.func39 rfl (by kernel_rfl) rfl ?_
  all_goals repeat' (first
    | (with_reducible rfl)
    | (conv => whnf
       first
         | exact trivial
         | (with_reducible rfl)
         | exact (rfl : (0 : Int) = ((0 : Nat) : Int))
         | exact w64_nat (by (try dsimp only); first | omega | exact lt_map (by assumption) | exact ge_map (by assumption) | (have := lt_map (by assumption); omega) | (have := ge_map (by assumption); omega) | (have := lt_mkm (by assumption); omega) | (have := ge_mkm (by assumption); omega) | (have := lt_mkr (by assumption); omega) | (have := ge_mkr (by assumption); omega) | (simp only [List.length_map, List.length_replicate] at *; omega))
         | refine bcase_T (by first | with_reducible rfl | decide) ?_
         | refine bcase_F (by first | with_reducible rfl | decide) ?_
         | refine bcase_dec (fun _ => ?_) (fun _ => ?_)
         | refine bcase_not ?_
         | refine bcase_intro (fun _ => ?_) (fun _ => ?_)
         | refine ⟨(by with_reducible rfl), ?_⟩
         | refine ⟨congrArg vi ?_, ?_⟩
         | refine ⟨congrArg vb ?_, ?_⟩
         | refine ⟨rfl, ?_⟩
         | refine ⟨(by kernel_rfl : drawOK _ = true), ?_⟩
         | refine Or.inl ?_
         | refine ⟨⟨congrArg (T.int _) ?_, rfl⟩, ?_⟩
         | refine ⟨⟨congrArg T.bool ?_, rfl⟩, ?_⟩
         | refine ⟨⟨rfl, Nat.le_of_ble_eq_true rfl⟩, ?_⟩
         | refine ⟨⟨rfl, rfl⟩, ?_⟩
         | refine ⟨⟨rfl, (by decide)⟩, ?_⟩
         | refine ⟨⟨rfl, ?_⟩, ?_⟩
         | refine ⟨Or.inr rfl, ?_⟩
         | refine ⟨Or.inl rfl, ?_⟩
         | refine ⟨⟨⟨rfl, rfl, rfl⟩, ?_⟩, ?_⟩
         | refine ⟨_, _, rfl, row_get _ _ (by (try dsimp only); first | omega | exact lt_map (by assumption) | exact ge_map (by assumption) | (have := lt_map (by assumption); omega) | (have := ge_map (by assumption); omega) | (have := lt_mkm (by assumption); omega) | (have := ge_mkm (by assumption); omega) | (have := lt_mkr (by assumption); omega) | (have := ge_mkr (by assumption); omega) | (simp only [List.length_map, List.length_replicate] at *; omega)), rfl, ?_⟩
         | refine ⟨(?_ : _ = ([] : List (List T))), ?_⟩
         | refine ⟨_, c_copyClient c h, ?_⟩
         | fail))
  all_goals rfl
theorem c_sIsValidDevice (d : DDevice) (h : bigD d) : FnAt Try.prog 49 [.agg (DDevice.e d)] [.one (.s (.bool (devOk d)))] := by
  refine fn_of Try.func49 rfl (by kernel_rfl) rfl ?_
  all_goals repeat' (first
    | (with_reducible rfl)
    | (conv => whnf
       first
         | exact trivial
         | (with_reducible rfl)
         | exact (rfl : (0 : Int) = ((0 : Nat) : Int))
         | exact w64_nat (by (try dsimp only); first | omega | exact lt_map (by assumption) | exact ge_map (by assumption) | (have := lt_map (by assumption); omega) | (have := ge_map (by assumption); omega) | (have := lt_mkm (by assumption); omega) | (have := ge_mkm (by assumption); omega) | (have := lt_mkr (by assumption); omega) | (have := ge_mkr (by assumption); omega) | (simp only [List.length_map] at *; omega))
         | refine bcase_T (by first | with_reducible rfl | decide) ?_
         | refine bcase_F (by first | with_reducible rfl | decide) ?_
         | refine bcase_dec (fun _ => ?_) (fun _ => ?_)
         | refine bcase_not ?_
         | refine bcase_intro (fun _ => ?_) (fun _ => ?_)
         | refine ⟨(by with_reducible rfl), ?_⟩
         | refine ⟨congrArg vi ?_, ?_⟩
         | refine ⟨congrArg vb ?_, ?_⟩
         | refine ⟨rfl, ?_⟩
         | refine ⟨(by kernel_rfl : drawOK _ = true), ?_⟩
         | refine Or.inl ?_
         | refine ⟨⟨congrArg (T.int _) ?_, rfl⟩, ?_⟩
         | refine ⟨⟨congrArg T.bool ?_, rfl⟩, ?_⟩
         | refine ⟨⟨rfl, Nat.le_of_ble_eq_true rfl⟩, ?_⟩
         | refine ⟨⟨rfl, rfl⟩, ?_⟩
         | refine ⟨⟨rfl, (by decide)⟩, ?_⟩
         | refine ⟨⟨rfl, ?_⟩, ?_⟩
         | refine ⟨Or.inr rfl, ?_⟩
         | refine ⟨Or.inl rfl, ?_⟩
         | refine ⟨⟨⟨rfl, rfl, rfl⟩, ?_⟩, ?_⟩
         | refine ⟨_, _, rfl, row_get _ _ (by (try dsimp only); first | omega | exact lt_map (by assumption) | exact ge_map (by assumption) | (have := lt_map (by assumption); omega) | (have := ge_map (by assumption); omega) | (have := lt_mkm (by assumption); omega) | (have := ge_mkm (by assumption); omega) | (have := lt_mkr (by assumption); omega) | (have := ge_mkr (by assumption); omega) | (simp only [List.length_map, List.length_replicate] at *; omega)), rfl, ?_⟩
         | refine ⟨(?_ : _ = ([] : List (List T))), ?_⟩
         | refine ⟨_, c_sIsValidClient d.Live h.1, ?_⟩
         | refine ⟨_, c_sIsValidClient d.Saved h.2, ?_⟩
         | refine ⟨_, c_sEqualLists d.Live.Submitted d.Saved.Submitted h.1.1.1, ?_⟩
         | refine ⟨0, _, rfl, rfl, ⟨Nat.zero_le _, (by simp only [List.length_map] at *; omega)⟩, lenL _ _, ?_⟩
         | refine ⟨_, fn_args (c_sEqualLists d.Saved.Inbox (d.Live.Inbox.take d.Saved.Inbox.length) h.2.2.1) (by simp), ?_⟩
         | fail))
  all_goals (simp_all [devOk, sameOwner, isPre] <;> (intros; omega))
theorem c_IsValidDevice (d : DDevice) (h : bigD d) : FnAt Try.prog 50 [.agg (DDevice.e d)] [.one (.s (.bool (devOk d)))] := by
  refine fn_of Try.func50 rfl (by kernel_rfl) rfl ?_
  all_goals repeat' (first
    | (with_reducible rfl)
    | (conv => whnf
       first
         | exact trivial
         | (with_reducible rfl)
         | exact (rfl : (0 : Int) = ((0 : Nat) : Int))
         | exact w64_nat (by (try dsimp only); first | omega | exact lt_map (by assumption) | exact ge_map (by assumption) | (have := lt_map (by assumption); omega) | (have := ge_map (by assumption); omega) | (have := lt_mkm (by assumption); omega) | (have := ge_mkm (by assumption); omega) | (have := lt_mkr (by assumption); omega) | (have := ge_mkr (by assumption); omega) | (simp only [List.length_map, List.length_replicate] at *; omega))
         | refine bcase_T (by first | with_reducible rfl | decide) ?_
         | refine bcase_F (by first | with_reducible rfl | decide) ?_
         | refine bcase_dec (fun _ => ?_) (fun _ => ?_)
         | refine bcase_not ?_
         | refine bcase_intro (fun _ => ?_) (fun _ => ?_)
         | refine ⟨(by with_reducible rfl), ?_⟩
         | refine ⟨congrArg vi ?_, ?_⟩
         | refine ⟨congrArg vb ?_, ?_⟩
         | refine ⟨rfl, ?_⟩
         | refine ⟨(by kernel_rfl : drawOK _ = true), ?_⟩
         | refine Or.inl ?_
         | refine ⟨⟨congrArg (T.int _) ?_, rfl⟩, ?_⟩
         | refine ⟨⟨congrArg T.bool ?_, rfl⟩, ?_⟩
         | refine ⟨⟨rfl, Nat.le_of_ble_eq_true rfl⟩, ?_⟩
         | refine ⟨⟨rfl, rfl⟩, ?_⟩
         | refine ⟨⟨rfl, (by decide)⟩, ?_⟩
         | refine ⟨⟨rfl, ?_⟩, ?_⟩
         | refine ⟨Or.inr rfl, ?_⟩
         | refine ⟨Or.inl rfl, ?_⟩
         | refine ⟨⟨⟨rfl, rfl, rfl⟩, ?_⟩, ?_⟩
         | refine ⟨_, _, rfl, row_get _ _ (by (try dsimp only); first | omega | exact lt_map (by assumption) | exact ge_map (by assumption) | (have := lt_map (by assumption); omega) | (have := ge_map (by assumption); omega) | (have := lt_mkm (by assumption); omega) | (have := ge_mkm (by assumption); omega) | (have := lt_mkr (by assumption); omega) | (have := ge_mkr (by assumption); omega) | (simp only [List.length_map, List.length_replicate] at *; omega)), rfl, ?_⟩
         | refine ⟨(?_ : _ = ([] : List (List T))), ?_⟩
         | refine ⟨_, c_IsValidClient d.Live h.1, ?_⟩
         | refine ⟨_, c_IsValidClient d.Saved h.2, ?_⟩
         | refine ⟨_, c_sameOwner d.Live d.Saved h.1, ?_⟩
         | refine ⟨_, c_isPrefix d.Saved.Inbox d.Live.Inbox h.2.2.1 h.2.2.2, ?_⟩
         | fail))
  all_goals (simp_all [devOk] <;> (intros; omega))
theorem c_sNeedsSave (d : DDevice) (h : bigD d) : FnAt Try.prog 51 [.agg (DDevice.e d)] [.one (.s (.bool (needsSave d)))] := by
  refine fn_of Try.func51 rfl (by kernel_rfl) rfl ?_
  all_goals repeat' (first
    | (with_reducible rfl)
    | (conv => whnf
       first
         | exact trivial
         | (with_reducible rfl)
         | exact (rfl : (0 : Int) = ((0 : Nat) : Int))
         | exact w64_nat (by (try dsimp only); first | omega | exact lt_map (by assumption) | exact ge_map (by assumption) | (have := lt_map (by assumption); omega) | (have := ge_map (by assumption); omega) | (have := lt_mkm (by assumption); omega) | (have := ge_mkm (by assumption); omega) | (have := lt_mkr (by assumption); omega) | (have := ge_mkr (by assumption); omega) | (simp only [List.length_map, List.length_replicate] at *; omega))
         | refine bcase_T (by first | with_reducible rfl | decide) ?_
         | refine bcase_F (by first | with_reducible rfl | decide) ?_
         | refine bcase_dec (fun _ => ?_) (fun _ => ?_)
         | refine bcase_not ?_
         | refine bcase_intro (fun _ => ?_) (fun _ => ?_)
         | refine ⟨(by with_reducible rfl), ?_⟩
         | refine ⟨congrArg vi ?_, ?_⟩
         | refine ⟨congrArg vb ?_, ?_⟩
         | refine ⟨rfl, ?_⟩
         | refine ⟨(by kernel_rfl : drawOK _ = true), ?_⟩
         | refine Or.inl ?_
         | refine ⟨⟨congrArg (T.int _) ?_, rfl⟩, ?_⟩
         | refine ⟨⟨congrArg T.bool ?_, rfl⟩, ?_⟩
         | refine ⟨⟨rfl, Nat.le_of_ble_eq_true rfl⟩, ?_⟩
         | refine ⟨⟨rfl, rfl⟩, ?_⟩
         | refine ⟨⟨rfl, (by decide)⟩, ?_⟩
         | refine ⟨⟨rfl, ?_⟩, ?_⟩
         | refine ⟨Or.inr rfl, ?_⟩
         | refine ⟨Or.inl rfl, ?_⟩
         | refine ⟨⟨⟨rfl, rfl, rfl⟩, ?_⟩, ?_⟩
         | refine ⟨_, _, rfl, row_get _ _ (by (try dsimp only); first | omega | exact lt_map (by assumption) | exact ge_map (by assumption) | (have := lt_map (by assumption); omega) | (have := ge_map (by assumption); omega) | (have := lt_mkm (by assumption); omega) | (have := ge_mkm (by assumption); omega) | (have := lt_mkr (by assumption); omega) | (have := ge_mkr (by assumption); omega) | (simp only [List.length_map, List.length_replicate] at *; omega)), rfl, ?_⟩
         | refine ⟨(?_ : _ = ([] : List (List T))), ?_⟩
         | refine ⟨_, c_sIsValidDevice d h, ?_⟩
         | fail))
  all_goals (simp_all [needsSave] <;> (intros; omega))
theorem c_NeedsSave (d : DDevice) (h : bigD d) : FnAt Try.prog 52 [.agg (DDevice.e d)] [.one (.s (.bool (needsSave d)))] := by
  refine fn_of Try.func52 rfl (by kernel_rfl) rfl ?_
  all_goals repeat' (first
    | (with_reducible rfl)
    | (conv => whnf
       first
         | exact trivial
         | (with_reducible rfl)
         | exact (rfl : (0 : Int) = ((0 : Nat) : Int))
         | exact w64_nat (by (try dsimp only); first | omega | exact lt_map (by assumption) | exact ge_map (by assumption) | (have := lt_map (by assumption); omega) | (have := ge_map (by assumption); omega) | (have := lt_mkm (by assumption); omega) | (have := ge_mkm (by assumption); omega) | (have := lt_mkr (by assumption); omega) | (have := ge_mkr (by assumption); omega) | (simp only [List.length_map, List.length_replicate] at *; omega))
         | refine bcase_T (by first | with_reducible rfl | decide) ?_
         | refine bcase_F (by first | with_reducible rfl | decide) ?_
         | refine bcase_dec (fun _ => ?_) (fun _ => ?_)
         | refine bcase_not ?_
         | refine bcase_intro (fun _ => ?_) (fun _ => ?_)
         | refine ⟨(by with_reducible rfl), ?_⟩
         | refine ⟨congrArg vi ?_, ?_⟩
         | refine ⟨congrArg vb ?_, ?_⟩
         | refine ⟨rfl, ?_⟩
         | refine ⟨(by kernel_rfl : drawOK _ = true), ?_⟩
         | refine Or.inl ?_
         | refine ⟨⟨congrArg (T.int _) ?_, rfl⟩, ?_⟩
         | refine ⟨⟨congrArg T.bool ?_, rfl⟩, ?_⟩
         | refine ⟨⟨rfl, Nat.le_of_ble_eq_true rfl⟩, ?_⟩
         | refine ⟨⟨rfl, rfl⟩, ?_⟩
         | refine ⟨⟨rfl, (by decide)⟩, ?_⟩
         | refine ⟨⟨rfl, ?_⟩, ?_⟩
         | refine ⟨Or.inr rfl, ?_⟩
         | refine ⟨Or.inl rfl, ?_⟩
         | refine ⟨⟨⟨rfl, rfl, rfl⟩, ?_⟩, ?_⟩
         | refine ⟨_, _, rfl, row_get _ _ (by (try dsimp only); first | omega | exact lt_map (by assumption) | exact ge_map (by assumption) | (have := lt_map (by assumption); omega) | (have := ge_map (by assumption); omega) | (have := lt_mkm (by assumption); omega) | (have := ge_mkm (by assumption); omega) | (have := lt_mkr (by assumption); omega) | (have := ge_mkr (by assumption); omega) | (simp only [List.length_map, List.length_replicate] at *; omega)), rfl, ?_⟩
         | refine ⟨(?_ : _ = ([] : List (List T))), ?_⟩
         | refine ⟨_, c_IsValidDevice d h, ?_⟩
         | fail))
  all_goals (simp_all [needsSave] <;> (intros; omega))
theorem c_FnExactEqualDevices (a0 : DDevice) (a1 : DDevice) (k0 : DDevice.ok a0) (k1 : DDevice.ok a1) : FnAt Try.prog 6 [.agg (DDevice.e a0), .agg (DDevice.e a1)] [.one (.s (.bool true))] := by
  have hca0_0 := cnt_ByteSS a0.Live.Submitted
  have hca0_1 := cnt_ByteSS a0.Live.Inbox
  have hca0_2 := cnt_ByteSS a0.Saved.Submitted
  have hca0_3 := cnt_ByteSS a0.Saved.Inbox
  have hca1_0 := cnt_ByteSS a1.Live.Submitted
  have hca1_1 := cnt_ByteSS a1.Live.Inbox
  have hca1_2 := cnt_ByteSS a1.Saved.Submitted
  have hca1_3 := cnt_ByteSS a1.Saved.Inbox
  refine fn_of Try.func6 rfl (by kernel_rfl) rfl ?_
  all_goals repeat' (first
    | (with_reducible rfl)
    | (conv => whnf
       first
         | refine bcase_szS (fun _ => ?_) (fun _ _ => ?_)
         | refine bcase_F (by first | rfl | (rw [decide_eq_false_iff_not]; omega) | (refine bne_eq_false_iff_eq.2 ?_; omega)) ?_
         | (refine Or.inl ?_; (conv => whnf); first | refine ⟨_, c_sEqualDevices a0 a1 (bigD_of (by omega)), ?_⟩ | refine ⟨_, c_EqualDevices a0 a1 (bigD_of (by omega)), ?_⟩ | refine ⟨_, c_szDevice _ _ (by first | exact k0 | exact k1) (by omega), ?_⟩ | refine ⟨_, c_toDevice _ (by first | assumption | omega | (simp only [DClient.sz, DDevice.sz] at *; omega)), ?_⟩ | refine ⟨_, c_eqDevice _ (by first | assumption | omega | (simp only [DClient.sz, DDevice.sz] at *; omega)), ?_⟩)
         | exact trivial
         | (with_reducible rfl)
         | exact (rfl : (0 : Int) = ((0 : Nat) : Int))
         | exact w64_nat (by (try dsimp only); first | omega | exact lt_map (by assumption) | exact ge_map (by assumption) | (have := lt_map (by assumption); omega) | (have := ge_map (by assumption); omega) | (have := lt_mkm (by assumption); omega) | (have := ge_mkm (by assumption); omega) | (have := lt_mkr (by assumption); omega) | (have := ge_mkr (by assumption); omega) | (simp only at *; omega))
         | refine bcase_T (by first | with_reducible rfl | decide) ?_
         | refine bcase_F (by first | with_reducible rfl | decide) ?_
         | refine bcase_dec (fun _ => ?_) (fun _ => ?_)
         | refine bcase_not ?_
         | refine bcase_intro (fun _ => ?_) (fun _ => ?_)
         | refine ⟨(by with_reducible rfl), ?_⟩
         | refine ⟨congrArg vi ?_, ?_⟩
         | refine ⟨congrArg vb ?_, ?_⟩
         | refine ⟨rfl, ?_⟩
         | refine ⟨(by kernel_rfl : drawOK _ = true), ?_⟩
         | refine Or.inl ?_
         | refine ⟨⟨congrArg (T.int _) ?_, rfl⟩, ?_⟩
         | refine ⟨⟨congrArg T.bool ?_, rfl⟩, ?_⟩
         | refine ⟨⟨rfl, Nat.le_of_ble_eq_true rfl⟩, ?_⟩
         | refine ⟨⟨rfl, rfl⟩, ?_⟩
         | refine ⟨⟨rfl, (by decide)⟩, ?_⟩
         | refine ⟨⟨rfl, ?_⟩, ?_⟩
         | refine ⟨Or.inr rfl, ?_⟩
         | refine ⟨Or.inl rfl, ?_⟩
         | refine ⟨⟨⟨rfl, rfl, rfl⟩, ?_⟩, ?_⟩
         | refine ⟨_, _, rfl, row_get _ _ (by (try dsimp only); first | omega | exact lt_map (by assumption) | exact ge_map (by assumption) | (have := lt_map (by assumption); omega) | (have := ge_map (by assumption); omega) | (have := lt_mkm (by assumption); omega) | (have := ge_mkm (by assumption); omega) | (have := lt_mkr (by assumption); omega) | (have := ge_mkr (by assumption); omega) | (simp only [List.length_map, List.length_replicate] at *; omega)), rfl, ?_⟩
         | refine ⟨(?_ : _ = ([] : List (List T))), ?_⟩
         | fail))
  all_goals (first | rfl | (simp_all; done))
theorem c_FnExactNewDevice (a0 : DClient) (k0 : DClient.ok a0) : FnAt Try.prog 10 [.agg (DClient.e a0)] [.one (.s (.bool true))] := by
  have hca0_0 := cnt_ByteSS a0.Submitted
  have hca0_1 := cnt_ByteSS a0.Inbox
  refine fn_of Try.func10 rfl (by kernel_rfl) rfl ?_
  all_goals repeat' (first
    | (with_reducible rfl)
    | (conv => whnf
       first
         | refine bcase_szS (fun _ => ?_) (fun _ _ => ?_)
         | refine bcase_F (by first | rfl | (rw [decide_eq_false_iff_not]; omega) | (refine bne_eq_false_iff_eq.2 ?_; omega)) ?_
         | (refine Or.inl ?_; (conv => whnf); first | refine ⟨_, c_sNewDevice a0 (bigC_of (by simp only [DClient.sz] at *; omega)), ?_⟩ | refine ⟨_, c_NewDevice a0 (bigC_of (by simp only [DClient.sz] at *; omega)), ?_⟩ | refine ⟨_, c_szClient _ _ (by first | exact k0) (by omega), ?_⟩ | refine ⟨_, c_toClient _ (by first | assumption | omega | (simp only [DClient.sz, DDevice.sz] at *; omega)), ?_⟩ | refine ⟨_, c_eqClient _ (by first | assumption | omega | (simp only [DClient.sz, DDevice.sz] at *; omega)), ?_⟩ | refine ⟨_, c_eqDevice _ (by first | assumption | omega | (simp only [DClient.sz, DDevice.sz] at *; omega)), ?_⟩ | refine ⟨_, c_heldDevice _ _ (by first | assumption | omega | (simp only [DClient.sz, DDevice.sz] at *; omega)) (by first | assumption | omega | (simp only [DClient.sz] at *; omega)), ?_⟩)
         | (refine Or.inr ⟨rfl, Or.inr ?_⟩; (conv => whnf); first | refine ⟨rfl, _, _, c_markClient _ _ (by first | assumption | omega | (simp only [DClient.sz, DDevice.sz] at *; omega)) (by first | assumption | omega | (simp only [DClient.sz] at *; omega)), ?_⟩ | refine ⟨rfl, _, _, c_markDevice _ _ (by first | assumption | omega | (simp only [DClient.sz, DDevice.sz] at *; omega)) (by first | assumption | omega | (simp only [DClient.sz] at *; omega)), ?_⟩)
         | exact trivial
         | (with_reducible rfl)
         | exact (rfl : (0 : Int) = ((0 : Nat) : Int))
         | exact w64_nat (by (try dsimp only); first | omega | exact lt_map (by assumption) | exact ge_map (by assumption) | (have := lt_map (by assumption); omega) | (have := ge_map (by assumption); omega) | (have := lt_mkm (by assumption); omega) | (have := ge_mkm (by assumption); omega) | (have := lt_mkr (by assumption); omega) | (have := ge_mkr (by assumption); omega) | (simp only [List.length_map, List.length_replicate] at *; omega))
         | refine bcase_T (by first | with_reducible rfl | decide) ?_
         | refine bcase_F (by first | with_reducible rfl | decide) ?_
         | refine bcase_dec (fun _ => ?_) (fun _ => ?_)
         | refine bcase_not ?_
         | refine bcase_intro (fun _ => ?_) (fun _ => ?_)
         | refine ⟨(by with_reducible rfl), ?_⟩
         | refine ⟨congrArg vi ?_, ?_⟩
         | refine ⟨congrArg vb ?_, ?_⟩
         | refine ⟨rfl, ?_⟩
         | refine ⟨(by kernel_rfl : drawOK _ = true), ?_⟩
         | refine Or.inl ?_
         | refine ⟨⟨congrArg (T.int _) ?_, rfl⟩, ?_⟩
         | refine ⟨⟨congrArg T.bool ?_, rfl⟩, ?_⟩
         | refine ⟨⟨rfl, Nat.le_of_ble_eq_true rfl⟩, ?_⟩
         | refine ⟨⟨rfl, rfl⟩, ?_⟩
         | refine ⟨⟨rfl, (by decide)⟩, ?_⟩
         | refine ⟨⟨rfl, ?_⟩, ?_⟩
         | refine ⟨Or.inr rfl, ?_⟩
         | refine ⟨Or.inl rfl, ?_⟩
         | refine ⟨⟨⟨rfl, rfl, rfl⟩, ?_⟩, ?_⟩
         | refine ⟨_, _, rfl, row_get _ _ (by (try dsimp only); first | omega | exact lt_map (by assumption) | exact ge_map (by assumption) | (have := lt_map (by assumption); omega) | (have := ge_map (by assumption); omega) | (have := lt_mkm (by assumption); omega) | (have := ge_mkm (by assumption); omega) | (have := lt_mkr (by assumption); omega) | (have := ge_mkr (by assumption); omega) | (simp only [List.length_map, List.length_replicate] at *; omega)), rfl, ?_⟩
         | refine ⟨(?_ : _ = ([] : List (List T))), ?_⟩
         | fail))
  all_goals (first | rfl | (simp_all; done))
theorem c_FnExactIsValidDevice (a0 : DDevice) (k0 : DDevice.ok a0) : FnAt Try.prog 12 [.agg (DDevice.e a0)] [.one (.s (.bool true))] := by
  have hca0_0 := cnt_ByteSS a0.Live.Submitted
  have hca0_1 := cnt_ByteSS a0.Live.Inbox
  have hca0_2 := cnt_ByteSS a0.Saved.Submitted
  have hca0_3 := cnt_ByteSS a0.Saved.Inbox
  refine fn_of Try.func12 rfl (by kernel_rfl) rfl ?_
  all_goals repeat' (first
    | (with_reducible rfl)
    | (conv => whnf
       first
         | refine bcase_szS (fun _ => ?_) (fun _ _ => ?_)
         | refine bcase_F (by first | rfl | (rw [decide_eq_false_iff_not]; omega) | (refine bne_eq_false_iff_eq.2 ?_; omega)) ?_
         | (refine Or.inl ?_; (conv => whnf); first | refine ⟨_, c_sIsValidDevice a0 (bigD_of (by omega)), ?_⟩ | refine ⟨_, c_IsValidDevice a0 (bigD_of (by omega)), ?_⟩ | refine ⟨_, c_szDevice _ _ (by first | exact k0) (by omega), ?_⟩ | refine ⟨_, c_toDevice _ (by first | assumption | omega | (simp only [DClient.sz, DDevice.sz] at *; omega)), ?_⟩ | refine ⟨_, c_eqDevice _ (by first | assumption | omega | (simp only [DClient.sz, DDevice.sz] at *; omega)), ?_⟩)
         | exact trivial
         | (with_reducible rfl)
         | exact (rfl : (0 : Int) = ((0 : Nat) : Int))
         | exact w64_nat (by (try dsimp only); first | omega | exact lt_map (by assumption) | exact ge_map (by assumption) | (have := lt_map (by assumption); omega) | (have := ge_map (by assumption); omega) | (have := lt_mkm (by assumption); omega) | (have := ge_mkm (by assumption); omega) | (have := lt_mkr (by assumption); omega) | (have := ge_mkr (by assumption); omega) | (simp only at *; omega))
         | refine bcase_T (by first | with_reducible rfl | decide) ?_
         | refine bcase_F (by first | with_reducible rfl | decide) ?_
         | refine bcase_dec (fun _ => ?_) (fun _ => ?_)
         | refine bcase_not ?_
         | refine bcase_intro (fun _ => ?_) (fun _ => ?_)
         | refine ⟨(by with_reducible rfl), ?_⟩
         | refine ⟨congrArg vi ?_, ?_⟩
         | refine ⟨congrArg vb ?_, ?_⟩
         | refine ⟨rfl, ?_⟩
         | refine ⟨(by kernel_rfl : drawOK _ = true), ?_⟩
         | refine Or.inl ?_
         | refine ⟨⟨congrArg (T.int _) ?_, rfl⟩, ?_⟩
         | refine ⟨⟨congrArg T.bool ?_, rfl⟩, ?_⟩
         | refine ⟨⟨rfl, Nat.le_of_ble_eq_true rfl⟩, ?_⟩
         | refine ⟨⟨rfl, rfl⟩, ?_⟩
         | refine ⟨⟨rfl, (by decide)⟩, ?_⟩
         | refine ⟨⟨rfl, ?_⟩, ?_⟩
         | refine ⟨Or.inr rfl, ?_⟩
         | refine ⟨Or.inl rfl, ?_⟩
         | refine ⟨⟨⟨rfl, rfl, rfl⟩, ?_⟩, ?_⟩
         | refine ⟨_, _, rfl, row_get _ _ (by (try dsimp only); first | omega | exact lt_map (by assumption) | exact ge_map (by assumption) | (have := lt_map (by assumption); omega) | (have := ge_map (by assumption); omega) | (have := lt_mkm (by assumption); omega) | (have := ge_mkm (by assumption); omega) | (have := lt_mkr (by assumption); omega) | (have := ge_mkr (by assumption); omega) | (simp only [List.length_map, List.length_replicate] at *; omega)), rfl, ?_⟩
         | refine ⟨(?_ : _ = ([] : List (List T))), ?_⟩
         | fail))
  all_goals (first | rfl | (simp_all; done))
theorem c_FnExactNeedsSave (a0 : DDevice) (k0 : DDevice.ok a0) : FnAt Try.prog 13 [.agg (DDevice.e a0)] [.one (.s (.bool true))] := by
  have hca0_0 := cnt_ByteSS a0.Live.Submitted
  have hca0_1 := cnt_ByteSS a0.Live.Inbox
  have hca0_2 := cnt_ByteSS a0.Saved.Submitted
  have hca0_3 := cnt_ByteSS a0.Saved.Inbox
  refine fn_of Try.func13 rfl (by kernel_rfl) rfl ?_
  all_goals repeat' (first
    | (with_reducible rfl)
    | (conv => whnf
       first
         | refine bcase_szS (fun _ => ?_) (fun _ _ => ?_)
         | refine bcase_F (by first | rfl | (rw [decide_eq_false_iff_not]; omega) | (refine bne_eq_false_iff_eq.2 ?_; omega)) ?_
         | (refine Or.inl ?_; (conv => whnf); first | refine ⟨_, c_sNeedsSave a0 (bigD_of (by omega)), ?_⟩ | refine ⟨_, c_NeedsSave a0 (bigD_of (by omega)), ?_⟩ | refine ⟨_, c_szDevice _ _ (by first | exact k0) (by omega), ?_⟩ | refine ⟨_, c_toDevice _ (by first | assumption | omega | (simp only [DClient.sz, DDevice.sz] at *; omega)), ?_⟩ | refine ⟨_, c_eqDevice _ (by first | assumption | omega | (simp only [DClient.sz, DDevice.sz] at *; omega)), ?_⟩)
         | exact trivial
         | (with_reducible rfl)
         | exact (rfl : (0 : Int) = ((0 : Nat) : Int))
         | exact w64_nat (by (try dsimp only); first | omega | exact lt_map (by assumption) | exact ge_map (by assumption) | (have := lt_map (by assumption); omega) | (have := ge_map (by assumption); omega) | (have := lt_mkm (by assumption); omega) | (have := ge_mkm (by assumption); omega) | (have := lt_mkr (by assumption); omega) | (have := ge_mkr (by assumption); omega) | (simp only at *; omega))
         | refine bcase_T (by first | with_reducible rfl | decide) ?_
         | refine bcase_F (by first | with_reducible rfl | decide) ?_
         | refine bcase_dec (fun _ => ?_) (fun _ => ?_)
         | refine bcase_not ?_
         | refine bcase_intro (fun _ => ?_) (fun _ => ?_)
         | refine ⟨(by with_reducible rfl), ?_⟩
         | refine ⟨congrArg vi ?_, ?_⟩
         | refine ⟨congrArg vb ?_, ?_⟩
         | refine ⟨rfl, ?_⟩
         | refine ⟨(by kernel_rfl : drawOK _ = true), ?_⟩
         | refine Or.inl ?_
         | refine ⟨⟨congrArg (T.int _) ?_, rfl⟩, ?_⟩
         | refine ⟨⟨congrArg T.bool ?_, rfl⟩, ?_⟩
         | refine ⟨⟨rfl, Nat.le_of_ble_eq_true rfl⟩, ?_⟩
         | refine ⟨⟨rfl, rfl⟩, ?_⟩
         | refine ⟨⟨rfl, (by decide)⟩, ?_⟩
         | refine ⟨⟨rfl, ?_⟩, ?_⟩
         | refine ⟨Or.inr rfl, ?_⟩
         | refine ⟨Or.inl rfl, ?_⟩
         | refine ⟨⟨⟨rfl, rfl, rfl⟩, ?_⟩, ?_⟩
         | refine ⟨_, _, rfl, row_get _ _ (by (try dsimp only); first | omega | exact lt_map (by assumption) | exact ge_map (by assumption) | (have := lt_map (by assumption); omega) | (have := ge_map (by assumption); omega) | (have := lt_mkm (by assumption); omega) | (have := ge_mkm (by assumption); omega) | (have := lt_mkr (by assumption); omega) | (have := ge_mkr (by assumption); omega) | (simp only [List.length_map, List.length_replicate] at *; omega)), rfl, ?_⟩
         | refine ⟨(?_ : _ = ([] : List (List T))), ?_⟩
         | fail))
  all_goals (first | rfl | (simp_all; done))
end Go.Proofs.Ytpnmifgfmdehhaa
