/-
  Contracts: lists of transfers.
  Conditions: none.
-/
import Derived.Test.YtkjheelgilffiaaFnA
namespace Go.Proofs.Ytkjheelgilffiaa
set_option maxHeartbeats 4000000
open Go.Vm Go.RowKit

def DTransfer.eqb (x y : DTransfer) : Bool := [x.From, x.To, x.Bytes] == [y.From, y.To, y.Bytes]
theorem DTransfer.eqb_self (x : DTransfer) : x.eqb x = true := by simp [DTransfer.eqb]
def total (xs : List DTransfer) : Int := xs.foldl (fun a x => w64 (a + x.Bytes)) 0
def bytesOf (k : Int) (xs : List DTransfer) : Int := xs.foldl (fun a x => if x.From = k ∨ x.To = k then w64 (a + x.Bytes) else a) 0
theorem bytesOf_take (k : Int) (xs : List DTransfer) {i : Nat} (h : i < xs.length) : bytesOf k (xs.take (i + 1)) = if xs[i].From = k ∨ xs[i].To = k then w64 (bytesOf k (xs.take i) + xs[i].Bytes) else bytesOf k (xs.take i) := foldl_take _ _ _ h
abbrev trEq (xs ys : List DTransfer) : Bool := eqL DTransfer.eqb xs ys
theorem c_sEqualTransfers (xs ys : List DTransfer) (hx : xs.length ≤ 4611686018427387904) (_hy : ys.length ≤ 4611686018427387904) : FnAt Try.prog 26 [.one (L DTransfer.e xs), .one (L DTransfer.e ys)] [.one (.s (.bool (trEq xs ys)))] := by
  refine fn_of Try.func26 rfl (by kernel_rfl) rfl ?_
  all_goals repeat' (first
    | (with_reducible rfl)
    | (conv => whnf
       first
         | exact trivial
         | (with_reducible rfl)
         | exact (rfl : (0 : Int) = ((0 : Nat) : Int))
         | exact w64_nat (by (try dsimp only); first | omega | exact lt_map (by assumption) | exact ge_map (by assumption) | (have := lt_map (by assumption); omega) | (have := ge_map (by assumption); omega) | (have := lt_mkm (by assumption); omega) | (have := ge_mkm (by assumption); omega) | (have := lt_mkr (by assumption); omega) | (have := ge_mkr (by assumption); omega) | (simp only [List.length_map] at *; omega))
         | refine bcase_T (by first | with_reducible rfl | decide) ?_
         | refine bcase_F (by first | with_reducible rfl | decide) ?_
         | refine bcase_dec (fun _ => ?_) (fun _ => ?_)
         | refine bcase_not ?_
         | refine bcase_intro (fun _ => ?_) (fun _ => ?_)
         | refine ⟨(by with_reducible rfl), ?_⟩
         | refine ⟨congrArg vi ?_, ?_⟩
         | refine ⟨congrArg vb ?_, ?_⟩
         | refine ⟨rfl, ?_⟩
         | refine ⟨(by kernel_rfl : drawOK _ = true), ?_⟩
         | refine Or.inl ?_
         | refine ⟨⟨congrArg (T.int _) ?_, rfl⟩, ?_⟩
         | refine ⟨⟨congrArg T.bool ?_, rfl⟩, ?_⟩
         | refine ⟨⟨rfl, Nat.le_of_ble_eq_true rfl⟩, ?_⟩
         | refine ⟨⟨rfl, rfl⟩, ?_⟩
         | refine ⟨⟨rfl, (by decide)⟩, ?_⟩
         | refine ⟨⟨rfl, ?_⟩, ?_⟩
         | refine ⟨Or.inr rfl, ?_⟩
         | refine ⟨Or.inl rfl, ?_⟩
         | refine ⟨⟨⟨rfl, rfl, rfl⟩, ?_⟩, ?_⟩
         | refine ⟨_, _, rfl, row_get _ _ (by (try dsimp only); first | omega | exact lt_map (by assumption) | exact ge_map (by assumption) | (have := lt_map (by assumption); omega) | (have := ge_map (by assumption); omega) | (have := lt_mkm (by assumption); omega) | (have := ge_mkm (by assumption); omega) | (have := lt_mkr (by assumption); omega) | (have := ge_mkr (by assumption); omega) | (simp only [List.length_map, List.length_replicate] at *; omega)), rfl, ?_⟩
         | refine ⟨(?_ : _ = ([] : List (List T))), ?_⟩
         | fail))
  rotate_left 1
  · rw [trEq, eqL_ne (by simp only [List.length_map] at *; omega)]
  conv => whnf
  have hl : xs.length = ys.length := by simp only [List.length_map] at *; omega
  refine ⟨Nat, fun i => i ≤ xs.length ∧ trEq xs ys = eqL DTransfer.eqb (xs.drop i) (ys.drop i), fun i => ⟨[(0, vl (xs.map DTransfer.e)), (1, vl (ys.map DTransfer.e)), (5, vi i)], [], 0⟩, fun i => xs.length - i, 0, ⟨Nat.zero_le _, rfl⟩, ⟨[], rfl, rfl, rfl, ?_, ?_⟩, fun i hi => ?_⟩
  all_goals repeat' (first
    | (with_reducible rfl)
    | (conv => whnf
       first
         | exact trivial
         | (with_reducible rfl)
         | exact (rfl : (0 : Int) = ((0 : Nat) : Int))
         | exact w64_nat (by (try dsimp only); first | omega | exact lt_map (by assumption) | exact ge_map (by assumption) | (have := lt_map (by assumption); omega) | (have := ge_map (by assumption); omega) | (have := lt_mkm (by assumption); omega) | (have := ge_mkm (by assumption); omega) | (have := lt_mkr (by assumption); omega) | (have := ge_mkr (by assumption); omega) | (simp only [List.length_map] at *; omega))
         | refine bcase_T (by first | with_reducible rfl | decide) ?_
         | refine bcase_F (by first | with_reducible rfl | decide) ?_
         | refine bcase_dec (fun _ => ?_) (fun _ => ?_)
         | refine bcase_not ?_
         | refine bcase_intro (fun _ => ?_) (fun _ => ?_)
         | refine ⟨(by with_reducible rfl), ?_⟩
         | refine ⟨congrArg vi ?_, ?_⟩
         | refine ⟨congrArg vb ?_, ?_⟩
         | refine ⟨rfl, ?_⟩
         | refine ⟨(by kernel_rfl : drawOK _ = true), ?_⟩
         | refine Or.inl ?_
         | refine ⟨⟨congrArg (T.int _) ?_, rfl⟩, ?_⟩
         | refine ⟨⟨congrArg T.bool ?_, rfl⟩, ?_⟩
         | refine ⟨⟨rfl, Nat.le_of_ble_eq_true rfl⟩, ?_⟩
         | refine ⟨⟨rfl, rfl⟩, ?_⟩
         | refine ⟨⟨rfl, (by decide)⟩, ?_⟩
         | refine ⟨⟨rfl, ?_⟩, ?_⟩
         | refine ⟨Or.inr rfl, ?_⟩
         | refine ⟨Or.inl rfl, ?_⟩
         | refine ⟨⟨⟨rfl, rfl, rfl⟩, ?_⟩, ?_⟩
         | refine ⟨_, _, rfl, row_get _ _ (by (try dsimp only); first | omega | exact lt_map (by assumption) | exact ge_map (by assumption) | (have := lt_map (by assumption); omega) | (have := ge_map (by assumption); omega) | (have := lt_mkm (by assumption); omega) | (have := ge_mkm (by assumption); omega) | (have := lt_mkr (by assumption); omega) | (have := ge_mkr (by assumption); omega) | (simp only [List.length_map, List.length_replicate] at *; omega)), rfl, ?_⟩
         | refine ⟨(?_ : _ = ([] : List (List T))), ?_⟩
         | refine ⟨_, _, rfl, row_get _ _ (by have := lt_map (by assumption); omega), rfl, ?_⟩
         | refine ⟨i + 1, ⟨⟨(by (try dsimp only); first | omega | exact lt_map (by assumption) | exact ge_map (by assumption) | (have := lt_map (by assumption); omega) | (have := ge_map (by assumption); omega) | (have := lt_mkm (by assumption); omega) | (have := ge_mkm (by assumption); omega) | (have := lt_mkr (by assumption); omega) | (have := ge_mkr (by assumption); omega) | (simp only [List.length_map, List.length_replicate] at *; omega)), ?_⟩, (by (try dsimp only); first | omega | exact lt_map (by assumption) | exact ge_map (by assumption) | (have := lt_map (by assumption); omega) | (have := ge_map (by assumption); omega) | (have := lt_mkm (by assumption); omega) | (have := ge_mkm (by assumption); omega) | (have := lt_mkr (by assumption); omega) | (have := ge_mkr (by assumption); omega) | (simp only [List.length_map, List.length_replicate] at *; omega))⟩, ⟨[], rfl, rfl, rfl, ?_, ?_⟩⟩
         | fail))
  · have h0 := lt_map (by assumption); rw [hi.2, eqL_step h0 (by omega)]; simp_all [DTransfer.eqb]
  · have h0 := lt_map (by assumption); rw [hi.2, eqL_step h0 (by omega)]; simp_all [DTransfer.eqb]
  · rw [hi.2, eqL_end hl (ge_map (by assumption))]
theorem c_slEqualTransfer (xs ys : List DTransfer) (hx : xs.length ≤ 4611686018427387904) (_hy : ys.length ≤ 4611686018427387904) : FnAt Try.prog 57 [.one (L DTransfer.e xs), .one (L DTransfer.e ys)] [.one (.s (.bool (trEq xs ys)))] := by
  refine fn_of Try.func57 rfl (by kernel_rfl) rfl ?_
  all_goals repeat' (first
    | (with_reducible rfl)
    | (conv => whnf
       first
         | exact trivial
         | (with_reducible rfl)
         | exact (rfl : (0 : Int) = ((0 : Nat) : Int))
         | exact w64_nat (by (try dsimp only); first | omega | exact lt_map (by assumption) | exact ge_map (by assumption) | (have := lt_map (by assumption); omega) | (have := ge_map (by assumption); omega) | (have := lt_mkm (by assumption); omega) | (have := ge_mkm (by assumption); omega) | (have := lt_mkr (by assumption); omega) | (have := ge_mkr (by assumption); omega) | (simp only [List.length_map] at *; omega))
         | refine bcase_T (by first | with_reducible rfl | decide) ?_
         | refine bcase_F (by first | with_reducible rfl | decide) ?_
         | refine bcase_dec (fun _ => ?_) (fun _ => ?_)
         | refine bcase_not ?_
         | refine bcase_intro (fun _ => ?_) (fun _ => ?_)
         | refine ⟨(by with_reducible rfl), ?_⟩
         | refine ⟨congrArg vi ?_, ?_⟩
         | refine ⟨congrArg vb ?_, ?_⟩
         | refine ⟨rfl, ?_⟩
         | refine ⟨(by kernel_rfl : drawOK _ = true), ?_⟩
         | refine Or.inl ?_
         | refine ⟨⟨congrArg (T.int _) ?_, rfl⟩, ?_⟩
         | refine ⟨⟨congrArg T.bool ?_, rfl⟩, ?_⟩
         | refine ⟨⟨rfl, Nat.le_of_ble_eq_true rfl⟩, ?_⟩
         | refine ⟨⟨rfl, rfl⟩, ?_⟩
         | refine ⟨⟨rfl, (by decide)⟩, ?_⟩
         | refine ⟨⟨rfl, ?_⟩, ?_⟩
         | refine ⟨Or.inr rfl, ?_⟩
         | refine ⟨Or.inl rfl, ?_⟩
         | refine ⟨⟨⟨rfl, rfl, rfl⟩, ?_⟩, ?_⟩
         | refine ⟨_, _, rfl, row_get _ _ (by (try dsimp only); first | omega | exact lt_map (by assumption) | exact ge_map (by assumption) | (have := lt_map (by assumption); omega) | (have := ge_map (by assumption); omega) | (have := lt_mkm (by assumption); omega) | (have := ge_mkm (by assumption); omega) | (have := lt_mkr (by assumption); omega) | (have := ge_mkr (by assumption); omega) | (simp only [List.length_map, List.length_replicate] at *; omega)), rfl, ?_⟩
         | refine ⟨(?_ : _ = ([] : List (List T))), ?_⟩
         | fail))
  rotate_left 1
  · rw [trEq, eqL_ne (by simp only [List.length_map] at *; omega)]
  conv => whnf
  have hl : xs.length = ys.length := by simp only [List.length_map] at *; omega
  refine ⟨Nat, fun i => i ≤ xs.length ∧ trEq xs ys = eqL DTransfer.eqb (xs.drop i) (ys.drop i), fun i => ⟨[(0, vl (xs.map DTransfer.e)), (1, vl (ys.map DTransfer.e)), (12, vi xs.length), (13, vi i)], [], 0⟩, fun i => xs.length - i, 0, ⟨Nat.zero_le _, rfl⟩, ⟨[], rfl, rfl, rfl, ?_, ?_⟩, fun i hi => ?_⟩
  all_goals repeat' (first
    | (with_reducible rfl)
    | (conv => whnf
       first
         | exact trivial
         | (with_reducible rfl)
         | exact (rfl : (0 : Int) = ((0 : Nat) : Int))
         | exact w64_nat (by (try dsimp only); first | omega | exact lt_map (by assumption) | exact ge_map (by assumption) | (have := lt_map (by assumption); omega) | (have := ge_map (by assumption); omega) | (have := lt_mkm (by assumption); omega) | (have := ge_mkm (by assumption); omega) | (have := lt_mkr (by assumption); omega) | (have := ge_mkr (by assumption); omega) | (simp only [List.length_map] at *; omega))
         | refine bcase_T (by first | with_reducible rfl | decide) ?_
         | refine bcase_F (by first | with_reducible rfl | decide) ?_
         | refine bcase_dec (fun _ => ?_) (fun _ => ?_)
         | refine bcase_not ?_
         | refine bcase_intro (fun _ => ?_) (fun _ => ?_)
         | refine ⟨(by with_reducible rfl), ?_⟩
         | refine ⟨congrArg vi ?_, ?_⟩
         | refine ⟨congrArg vb ?_, ?_⟩
         | refine ⟨rfl, ?_⟩
         | refine ⟨(by kernel_rfl : drawOK _ = true), ?_⟩
         | refine Or.inl ?_
         | refine ⟨⟨congrArg (T.int _) ?_, rfl⟩, ?_⟩
         | refine ⟨⟨congrArg T.bool ?_, rfl⟩, ?_⟩
         | refine ⟨⟨rfl, Nat.le_of_ble_eq_true rfl⟩, ?_⟩
         | refine ⟨⟨rfl, rfl⟩, ?_⟩
         | refine ⟨⟨rfl, (by decide)⟩, ?_⟩
         | refine ⟨⟨rfl, ?_⟩, ?_⟩
         | refine ⟨Or.inr rfl, ?_⟩
         | refine ⟨Or.inl rfl, ?_⟩
         | refine ⟨⟨⟨rfl, rfl, rfl⟩, ?_⟩, ?_⟩
         | refine ⟨_, _, rfl, row_get _ _ (by (try dsimp only); first | omega | exact lt_map (by assumption) | exact ge_map (by assumption) | (have := lt_map (by assumption); omega) | (have := ge_map (by assumption); omega) | (have := lt_mkm (by assumption); omega) | (have := ge_mkm (by assumption); omega) | (have := lt_mkr (by assumption); omega) | (have := ge_mkr (by assumption); omega) | (simp only [List.length_map, List.length_replicate] at *; omega)), rfl, ?_⟩
         | refine ⟨(?_ : _ = ([] : List (List T))), ?_⟩
         | refine ⟨i + 1, ⟨⟨(by (try dsimp only); first | omega | exact lt_map (by assumption) | exact ge_map (by assumption) | (have := lt_map (by assumption); omega) | (have := ge_map (by assumption); omega) | (have := lt_mkm (by assumption); omega) | (have := ge_mkm (by assumption); omega) | (have := lt_mkr (by assumption); omega) | (have := ge_mkr (by assumption); omega) | (simp only [List.length_map, List.length_replicate] at *; omega)), ?_⟩, (by (try dsimp only); first | omega | exact lt_map (by assumption) | exact ge_map (by assumption) | (have := lt_map (by assumption); omega) | (have := ge_map (by assumption); omega) | (have := lt_mkm (by assumption); omega) | (have := ge_mkm (by assumption); omega) | (have := lt_mkr (by assumption); omega) | (have := ge_mkr (by assumption); omega) | (simp only [List.length_map, List.length_replicate] at *; omega))⟩, ⟨[], rfl, rfl, rfl, ?_, ?_⟩⟩
         | fail))
  all_goals first
    | (rw [List.length_map])
    | (rw [hi.2, eqL_step (by omega) (by omega)]; simp_all [DTransfer.eqb]; done)
    | (rw [hi.2, eqL_end hl (by omega)])
theorem c_EqualTransfers (xs ys : List DTransfer) (hx : xs.length ≤ 4611686018427387904) (hy : ys.length ≤ 4611686018427387904) : FnAt Try.prog 27 [.one (L DTransfer.e xs), .one (L DTransfer.e ys)] [.one (.s (.bool (trEq xs ys)))] := by
  refine fn_of Try.func27 rfl (by kernel_rfl) rfl ?_
  all_goals repeat' (first
    | (with_reducible rfl)
    | (conv => whnf
       first
         | exact trivial
         | (with_reducible rfl)
         | exact (rfl : (0 : Int) = ((0 : Nat) : Int))
         | exact w64_nat (by (try dsimp only); first | omega | exact lt_map (by assumption) | exact ge_map (by assumption) | (have := lt_map (by assumption); omega) | (have := ge_map (by assumption); omega) | (have := lt_mkm (by assumption); omega) | (have := ge_mkm (by assumption); omega) | (have := lt_mkr (by assumption); omega) | (have := ge_mkr (by assumption); omega) | (simp only [List.length_map, List.length_replicate] at *; omega))
         | refine bcase_T (by first | with_reducible rfl | decide) ?_
         | refine bcase_F (by first | with_reducible rfl | decide) ?_
         | refine bcase_dec (fun _ => ?_) (fun _ => ?_)
         | refine bcase_not ?_
         | refine bcase_intro (fun _ => ?_) (fun _ => ?_)
         | refine ⟨(by with_reducible rfl), ?_⟩
         | refine ⟨congrArg vi ?_, ?_⟩
         | refine ⟨congrArg vb ?_, ?_⟩
         | refine ⟨rfl, ?_⟩
         | refine ⟨(by kernel_rfl : drawOK _ = true), ?_⟩
         | refine Or.inl ?_
         | refine ⟨⟨congrArg (T.int _) ?_, rfl⟩, ?_⟩
         | refine ⟨⟨congrArg T.bool ?_, rfl⟩, ?_⟩
         | refine ⟨⟨rfl, Nat.le_of_ble_eq_true rfl⟩, ?_⟩
         | refine ⟨⟨rfl, rfl⟩, ?_⟩
         | refine ⟨⟨rfl, (by decide)⟩, ?_⟩
         | refine ⟨⟨rfl, ?_⟩, ?_⟩
         | refine ⟨Or.inr rfl, ?_⟩
         | refine ⟨Or.inl rfl, ?_⟩
         | refine ⟨⟨⟨rfl, rfl, rfl⟩, ?_⟩, ?_⟩
         | refine ⟨_, _, rfl, row_get _ _ (by (try dsimp only); first | omega | exact lt_map (by assumption) | exact ge_map (by assumption) | (have := lt_map (by assumption); omega) | (have := ge_map (by assumption); omega) | (have := lt_mkm (by assumption); omega) | (have := ge_mkm (by assumption); omega) | (have := lt_mkr (by assumption); omega) | (have := ge_mkr (by assumption); omega) | (simp only [List.length_map, List.length_replicate] at *; omega)), rfl, ?_⟩
         | refine ⟨(?_ : _ = ([] : List (List T))), ?_⟩
         | refine ⟨_, c_slEqualTransfer _ _ hx hy, ?_⟩
         | fail))
  all_goals rfl
theorem c_FnExactEqualTransfers (a0 : (List DTransfer)) (a1 : (List DTransfer)) (k0 : (okL DTransfer.ok) a0) (k1 : (okL DTransfer.ok) a1) : FnAt Try.prog 7 [.one (L DTransfer.e a0), .one (L DTransfer.e a1)] [.one (.s (.bool true))] := by
  have hca0_0 := cnt_TransferS a0
  have hca1_0 := cnt_TransferS a1
  refine fn_of Try.func7 rfl (by kernel_rfl) rfl ?_
  all_goals repeat' (first
    | (with_reducible rfl)
    | (conv => whnf
       first
         | refine bcase_szS (fun _ => ?_) (fun _ _ => ?_)
         | refine bcase_F (by first | rfl | (rw [decide_eq_false_iff_not]; omega) | (refine bne_eq_false_iff_eq.2 ?_; omega)) ?_
         | (refine Or.inl ?_; (conv => whnf); first | refine ⟨_, c_sEqualTransfers a0 a1 (by omega) (by omega), ?_⟩ | refine ⟨_, c_EqualTransfers a0 a1 (by omega) (by omega), ?_⟩ | refine ⟨_, c_szTransferS _ _ (by first | exact k0 | exact k1) (by omega), ?_⟩ | refine ⟨_, c_toTransferS _ (by first | assumption | omega | (omega)), ?_⟩ | refine ⟨_, c_eqTransferS _ (by first | assumption | omega | (omega)), ?_⟩)
         | exact trivial
         | (with_reducible rfl)
         | exact (rfl : (0 : Int) = ((0 : Nat) : Int))
         | exact w64_nat (by (try dsimp only); first | omega | exact lt_map (by assumption) | exact ge_map (by assumption) | (have := lt_map (by assumption); omega) | (have := ge_map (by assumption); omega) | (have := lt_mkm (by assumption); omega) | (have := ge_mkm (by assumption); omega) | (have := lt_mkr (by assumption); omega) | (have := ge_mkr (by assumption); omega) | (simp only at *; omega))
         | refine bcase_T (by first | with_reducible rfl | decide) ?_
         | refine bcase_F (by first | with_reducible rfl | decide) ?_
         | refine bcase_dec (fun _ => ?_) (fun _ => ?_)
         | refine bcase_not ?_
         | refine bcase_intro (fun _ => ?_) (fun _ => ?_)
         | refine ⟨(by with_reducible rfl), ?_⟩
         | refine ⟨congrArg vi ?_, ?_⟩
         | refine ⟨congrArg vb ?_, ?_⟩
         | refine ⟨rfl, ?_⟩
         | refine ⟨(by kernel_rfl : drawOK _ = true), ?_⟩
         | refine Or.inl ?_
         | refine ⟨⟨congrArg (T.int _) ?_, rfl⟩, ?_⟩
         | refine ⟨⟨congrArg T.bool ?_, rfl⟩, ?_⟩
         | refine ⟨⟨rfl, Nat.le_of_ble_eq_true rfl⟩, ?_⟩
         | refine ⟨⟨rfl, rfl⟩, ?_⟩
         | refine ⟨⟨rfl, (by decide)⟩, ?_⟩
         | refine ⟨⟨rfl, ?_⟩, ?_⟩
         | refine ⟨Or.inr rfl, ?_⟩
         | refine ⟨Or.inl rfl, ?_⟩
         | refine ⟨⟨⟨rfl, rfl, rfl⟩, ?_⟩, ?_⟩
         | refine ⟨_, _, rfl, row_get _ _ (by (try dsimp only); first | omega | exact lt_map (by assumption) | exact ge_map (by assumption) | (have := lt_map (by assumption); omega) | (have := ge_map (by assumption); omega) | (have := lt_mkm (by assumption); omega) | (have := ge_mkm (by assumption); omega) | (have := lt_mkr (by assumption); omega) | (have := ge_mkr (by assumption); omega) | (simp only [List.length_map, List.length_replicate] at *; omega)), rfl, ?_⟩
         | refine ⟨(?_ : _ = ([] : List (List T))), ?_⟩
         | fail))
  all_goals (first | rfl | (simp_all; done))
def okSz (c s r : Int) : Bool := inR c 0 8 && inR s 2 4 && inR r 1 64
theorem okSz_iff {c s r : Int} : okSz c s r = true ↔ (0 ≤ c ∧ c ≤ 8) ∧ (2 ≤ s ∧ s ≤ 4) ∧ (1 ≤ r ∧ r ≤ 64) := by simp only [okSz, Bool.and_eq_true, inR_iff, and_assoc]
theorem okSz_not {c s r : Int} : okSz c s r = false ↔ ¬ ((0 ≤ c ∧ c ≤ 8) ∧ (2 ≤ s ∧ s ≤ 4) ∧ (1 ≤ r ∧ r ≤ 64)) := by rw [← okSz_iff]; simp
theorem c_isServerCount (a : Int) : FnAt Try.prog 71 [.one (I a)] [.one (.s (.bool (inR a 2 4)))] := by
  refine fn_of Try.func71 rfl (by kernel_rfl) rfl ?_
  all_goals repeat' (first
    | (with_reducible rfl)
    | (conv => whnf
       first
         | exact trivial
         | (with_reducible rfl)
         | exact (rfl : (0 : Int) = ((0 : Nat) : Int))
         | exact w64_nat (by (try dsimp only); first | omega | exact lt_map (by assumption) | exact ge_map (by assumption) | (have := lt_map (by assumption); omega) | (have := ge_map (by assumption); omega) | (have := lt_mkm (by assumption); omega) | (have := ge_mkm (by assumption); omega) | (have := lt_mkr (by assumption); omega) | (have := ge_mkr (by assumption); omega) | (simp only [List.length_map, List.length_replicate] at *; omega))
         | refine bcase_T (by first | with_reducible rfl | decide) ?_
         | refine bcase_F (by first | with_reducible rfl | decide) ?_
         | refine bcase_dec (fun _ => ?_) (fun _ => ?_)
         | refine bcase_not ?_
         | refine bcase_intro (fun _ => ?_) (fun _ => ?_)
         | refine ⟨(by with_reducible rfl), ?_⟩
         | refine ⟨congrArg vi ?_, ?_⟩
         | refine ⟨congrArg vb ?_, ?_⟩
         | refine ⟨rfl, ?_⟩
         | refine ⟨(by kernel_rfl : drawOK _ = true), ?_⟩
         | refine Or.inl ?_
         | refine ⟨⟨congrArg (T.int _) ?_, rfl⟩, ?_⟩
         | refine ⟨⟨congrArg T.bool ?_, rfl⟩, ?_⟩
         | refine ⟨⟨rfl, Nat.le_of_ble_eq_true rfl⟩, ?_⟩
         | refine ⟨⟨rfl, rfl⟩, ?_⟩
         | refine ⟨⟨rfl, (by decide)⟩, ?_⟩
         | refine ⟨⟨rfl, ?_⟩, ?_⟩
         | refine ⟨Or.inr rfl, ?_⟩
         | refine ⟨Or.inl rfl, ?_⟩
         | refine ⟨⟨⟨rfl, rfl, rfl⟩, ?_⟩, ?_⟩
         | refine ⟨_, _, rfl, row_get _ _ (by (try dsimp only); first | omega | exact lt_map (by assumption) | exact ge_map (by assumption) | (have := lt_map (by assumption); omega) | (have := ge_map (by assumption); omega) | (have := lt_mkm (by assumption); omega) | (have := ge_mkm (by assumption); omega) | (have := lt_mkr (by assumption); omega) | (have := ge_mkr (by assumption); omega) | (simp only [List.length_map, List.length_replicate] at *; omega)), rfl, ?_⟩
         | refine ⟨(?_ : _ = ([] : List (List T))), ?_⟩
         | refine ⟨_, c_InRange _ _ _, ?_⟩
         | fail))
  all_goals rfl
theorem c_l7Count (a : Int) : FnAt Try.prog 70 [.one (I a)] [.one (.s (.bool (inR a 2 4)))] := by
  refine fn_of Try.func70 rfl (by kernel_rfl) rfl ?_
  all_goals repeat' (first
    | (with_reducible rfl)
    | (conv => whnf
       first
         | exact trivial
         | (with_reducible rfl)
         | exact (rfl : (0 : Int) = ((0 : Nat) : Int))
         | exact w64_nat (by (try dsimp only); first | omega | exact lt_map (by assumption) | exact ge_map (by assumption) | (have := lt_map (by assumption); omega) | (have := ge_map (by assumption); omega) | (have := lt_mkm (by assumption); omega) | (have := ge_mkm (by assumption); omega) | (have := lt_mkr (by assumption); omega) | (have := ge_mkr (by assumption); omega) | (simp only [List.length_map, List.length_replicate] at *; omega))
         | refine bcase_T (by first | with_reducible rfl | decide) ?_
         | refine bcase_F (by first | with_reducible rfl | decide) ?_
         | refine bcase_dec (fun _ => ?_) (fun _ => ?_)
         | refine bcase_not ?_
         | refine bcase_intro (fun _ => ?_) (fun _ => ?_)
         | refine ⟨(by with_reducible rfl), ?_⟩
         | refine ⟨congrArg vi ?_, ?_⟩
         | refine ⟨congrArg vb ?_, ?_⟩
         | refine ⟨rfl, ?_⟩
         | refine ⟨(by kernel_rfl : drawOK _ = true), ?_⟩
         | refine Or.inl ?_
         | refine ⟨⟨congrArg (T.int _) ?_, rfl⟩, ?_⟩
         | refine ⟨⟨congrArg T.bool ?_, rfl⟩, ?_⟩
         | refine ⟨⟨rfl, Nat.le_of_ble_eq_true rfl⟩, ?_⟩
         | refine ⟨⟨rfl, rfl⟩, ?_⟩
         | refine ⟨⟨rfl, (by decide)⟩, ?_⟩
         | refine ⟨⟨rfl, ?_⟩, ?_⟩
         | refine ⟨Or.inr rfl, ?_⟩
         | refine ⟨Or.inl rfl, ?_⟩
         | refine ⟨⟨⟨rfl, rfl, rfl⟩, ?_⟩, ?_⟩
         | refine ⟨_, _, rfl, row_get _ _ (by (try dsimp only); first | omega | exact lt_map (by assumption) | exact ge_map (by assumption) | (have := lt_map (by assumption); omega) | (have := ge_map (by assumption); omega) | (have := lt_mkm (by assumption); omega) | (have := ge_mkm (by assumption); omega) | (have := lt_mkr (by assumption); omega) | (have := ge_mkr (by assumption); omega) | (simp only [List.length_map, List.length_replicate] at *; omega)), rfl, ?_⟩
         | refine ⟨(?_ : _ = ([] : List (List T))), ?_⟩
         | refine ⟨_, c_l1In _ _ _, ?_⟩
         | fail))
  all_goals rfl
theorem c_areSizes (a b c : Int) : FnAt Try.prog 59 [.one (I a), .one (I b), .one (I c)] [.one (.s (.bool (okSz a b c)))] := by
  refine fn_of Try.func59 rfl (by kernel_rfl) rfl ?_
  all_goals repeat' (first
    | (with_reducible rfl)
    | (conv => whnf
       first
         | exact trivial
         | (with_reducible rfl)
         | exact (rfl : (0 : Int) = ((0 : Nat) : Int))
         | exact w64_nat (by (try dsimp only); first | omega | exact lt_map (by assumption) | exact ge_map (by assumption) | (have := lt_map (by assumption); omega) | (have := ge_map (by assumption); omega) | (have := lt_mkm (by assumption); omega) | (have := ge_mkm (by assumption); omega) | (have := lt_mkr (by assumption); omega) | (have := ge_mkr (by assumption); omega) | (simp only [List.length_map, List.length_replicate] at *; omega))
         | refine bcase_T (by first | with_reducible rfl | decide) ?_
         | refine bcase_F (by first | with_reducible rfl | decide) ?_
         | refine bcase_dec (fun _ => ?_) (fun _ => ?_)
         | refine bcase_not ?_
         | refine bcase_intro (fun _ => ?_) (fun _ => ?_)
         | refine ⟨(by with_reducible rfl), ?_⟩
         | refine ⟨congrArg vi ?_, ?_⟩
         | refine ⟨congrArg vb ?_, ?_⟩
         | refine ⟨rfl, ?_⟩
         | refine ⟨(by kernel_rfl : drawOK _ = true), ?_⟩
         | refine Or.inl ?_
         | refine ⟨⟨congrArg (T.int _) ?_, rfl⟩, ?_⟩
         | refine ⟨⟨congrArg T.bool ?_, rfl⟩, ?_⟩
         | refine ⟨⟨rfl, Nat.le_of_ble_eq_true rfl⟩, ?_⟩
         | refine ⟨⟨rfl, rfl⟩, ?_⟩
         | refine ⟨⟨rfl, (by decide)⟩, ?_⟩
         | refine ⟨⟨rfl, ?_⟩, ?_⟩
         | refine ⟨Or.inr rfl, ?_⟩
         | refine ⟨Or.inl rfl, ?_⟩
         | refine ⟨⟨⟨rfl, rfl, rfl⟩, ?_⟩, ?_⟩
         | refine ⟨_, _, rfl, row_get _ _ (by (try dsimp only); first | omega | exact lt_map (by assumption) | exact ge_map (by assumption) | (have := lt_map (by assumption); omega) | (have := ge_map (by assumption); omega) | (have := lt_mkm (by assumption); omega) | (have := ge_mkm (by assumption); omega) | (have := lt_mkr (by assumption); omega) | (have := ge_mkr (by assumption); omega) | (simp only [List.length_map, List.length_replicate] at *; omega)), rfl, ?_⟩
         | refine ⟨(?_ : _ = ([] : List (List T))), ?_⟩
         | refine ⟨_, c_InRange _ _ _, ?_⟩
         | refine ⟨_, c_isServerCount _, ?_⟩
         | fail))
  all_goals simp_all [okSz]
theorem c_l31Ok (a b c : Int) : FnAt Try.prog 58 [.one (I a), .one (I b), .one (I c)] [.one (.s (.bool (okSz a b c)))] := by
  refine fn_of Try.func58 rfl (by kernel_rfl) rfl ?_
  all_goals repeat' (first
    | (with_reducible rfl)
    | (conv => whnf
       first
         | exact trivial
         | (with_reducible rfl)
         | exact (rfl : (0 : Int) = ((0 : Nat) : Int))
         | exact w64_nat (by (try dsimp only); first | omega | exact lt_map (by assumption) | exact ge_map (by assumption) | (have := lt_map (by assumption); omega) | (have := ge_map (by assumption); omega) | (have := lt_mkm (by assumption); omega) | (have := ge_mkm (by assumption); omega) | (have := lt_mkr (by assumption); omega) | (have := ge_mkr (by assumption); omega) | (simp only [List.length_map, List.length_replicate] at *; omega))
         | refine bcase_T (by first | with_reducible rfl | decide) ?_
         | refine bcase_F (by first | with_reducible rfl | decide) ?_
         | refine bcase_dec (fun _ => ?_) (fun _ => ?_)
         | refine bcase_not ?_
         | refine bcase_intro (fun _ => ?_) (fun _ => ?_)
         | refine ⟨(by with_reducible rfl), ?_⟩
         | refine ⟨congrArg vi ?_, ?_⟩
         | refine ⟨congrArg vb ?_, ?_⟩
         | refine ⟨rfl, ?_⟩
         | refine ⟨(by kernel_rfl : drawOK _ = true), ?_⟩
         | refine Or.inl ?_
         | refine ⟨⟨congrArg (T.int _) ?_, rfl⟩, ?_⟩
         | refine ⟨⟨congrArg T.bool ?_, rfl⟩, ?_⟩
         | refine ⟨⟨rfl, Nat.le_of_ble_eq_true rfl⟩, ?_⟩
         | refine ⟨⟨rfl, rfl⟩, ?_⟩
         | refine ⟨⟨rfl, (by decide)⟩, ?_⟩
         | refine ⟨⟨rfl, ?_⟩, ?_⟩
         | refine ⟨Or.inr rfl, ?_⟩
         | refine ⟨Or.inl rfl, ?_⟩
         | refine ⟨⟨⟨rfl, rfl, rfl⟩, ?_⟩, ?_⟩
         | refine ⟨_, _, rfl, row_get _ _ (by (try dsimp only); first | omega | exact lt_map (by assumption) | exact ge_map (by assumption) | (have := lt_map (by assumption); omega) | (have := ge_map (by assumption); omega) | (have := lt_mkm (by assumption); omega) | (have := ge_mkm (by assumption); omega) | (have := lt_mkr (by assumption); omega) | (have := ge_mkr (by assumption); omega) | (simp only [List.length_map, List.length_replicate] at *; omega)), rfl, ?_⟩
         | refine ⟨(?_ : _ = ([] : List (List T))), ?_⟩
         | refine ⟨_, c_l1In _ _ _, ?_⟩
         | refine ⟨_, c_l7Count _, ?_⟩
         | fail))
  all_goals simp_all [okSz]
/-- The transfers of one client's write. -/
def wrow (r : Int) (a : Nat) (n : Nat) : List DTransfer := (List.range n).map fun k : Nat => ⟨a, 100 + k, shareSize r⟩
def wts (s : Nat) (r : Int) (n : Nat) : List DTransfer := (List.range n).flatMap fun a => wrow r a s
def writeTransfers (c s r : Int) : List DTransfer := if okSz c s r then wts s.toNat r c.toNat else []
theorem wrow_succ (r : Int) (a n : Nat) : wrow r a (n + 1) = wrow r a n ++ [⟨a, 100 + (n : Int), shareSize r⟩] := by simp [wrow, List.range_succ]
theorem wts_succ (s : Nat) (r : Int) (n : Nat) : wts s r (n + 1) = wts s r n ++ wrow r n s := by simp [wts, List.range_succ]
theorem wrow_len (r : Int) (a n : Nat) : (wrow r a n).length = n := by simp [wrow]
theorem wts_len (s : Nat) (r : Int) (n : Nat) : (wts s r n).length = n * s := by
  induction n with
  | zero => simp [wts]
  | succ n ih => rw [wts_succ, List.length_append, ih, wrow_len, Nat.add_mul, Nat.one_mul]
theorem shareSize_len (r : Int) : 0 ≤ shareSize r ∧ shareSize r ≤ 1536 := by unfold shareSize; split <;> omega
theorem writeTransfers_len (c s r : Int) : (writeTransfers c s r).length ≤ 32 := by
  unfold writeTransfers
  split
  · rename_i h
    have h := okSz_iff.1 h
    rw [wts_len]
    have h1 : c.toNat ≤ 8 := by omega
    have h2 : s.toNat ≤ 4 := by omega
    exact Nat.le_trans (Nat.mul_le_mul h1 h2) (by decide)
  · simp
theorem c_WriteTransfers (c s r : Int) : FnAt Try.prog 29 [.one (I c), .one (I s), .one (I r)] [.one (.l 3 ((writeTransfers c s r).map DTransfer.e))] := by
  refine fn_of Try.func29 rfl (by kernel_rfl) rfl ?_
  all_goals repeat' (first
    | (with_reducible rfl)
    | (conv => whnf
       first
         | exact trivial
         | (with_reducible rfl)
         | exact (rfl : (0 : Int) = ((0 : Nat) : Int))
         | exact w64_nat (by (try dsimp only); first | omega | exact lt_map (by assumption) | exact ge_map (by assumption) | (have := lt_map (by assumption); omega) | (have := ge_map (by assumption); omega) | (have := lt_mkm (by assumption); omega) | (have := ge_mkm (by assumption); omega) | (have := lt_mkr (by assumption); omega) | (have := ge_mkr (by assumption); omega) | (simp only [List.length_map, List.length_replicate] at *; omega))
         | refine bcase_T (by first | with_reducible rfl | decide) ?_
         | refine bcase_F (by first | with_reducible rfl | decide) ?_
         | refine bcase_dec (fun _ => ?_) (fun _ => ?_)
         | refine bcase_not ?_
         | refine bcase_intro (fun _ => ?_) (fun _ => ?_)
         | refine ⟨(by with_reducible rfl), ?_⟩
         | refine ⟨congrArg vi ?_, ?_⟩
         | refine ⟨congrArg vb ?_, ?_⟩
         | refine ⟨rfl, ?_⟩
         | refine ⟨(by kernel_rfl : drawOK _ = true), ?_⟩
         | refine Or.inl ?_
         | refine ⟨⟨congrArg (T.int _) ?_, rfl⟩, ?_⟩
         | refine ⟨⟨congrArg T.bool ?_, rfl⟩, ?_⟩
         | refine ⟨⟨rfl, Nat.le_of_ble_eq_true rfl⟩, ?_⟩
         | refine ⟨⟨rfl, rfl⟩, ?_⟩
         | refine ⟨⟨rfl, (by decide)⟩, ?_⟩
         | refine ⟨⟨rfl, ?_⟩, ?_⟩
         | refine ⟨Or.inr rfl, ?_⟩
         | refine ⟨Or.inl rfl, ?_⟩
         | refine ⟨⟨⟨rfl, rfl, rfl⟩, ?_⟩, ?_⟩
         | refine ⟨_, _, rfl, row_get _ _ (by (try dsimp only); first | omega | exact lt_map (by assumption) | exact ge_map (by assumption) | (have := lt_map (by assumption); omega) | (have := ge_map (by assumption); omega) | (have := lt_mkm (by assumption); omega) | (have := ge_mkm (by assumption); omega) | (have := lt_mkr (by assumption); omega) | (have := ge_mkr (by assumption); omega) | (simp only [List.length_map, List.length_replicate] at *; omega)), rfl, ?_⟩
         | refine ⟨(?_ : _ = ([] : List (List T))), ?_⟩
         | refine ⟨_, c_areSizes _ _ _, ?_⟩
         | fail))
  any_goals (rw [writeTransfers, if_neg (by simp_all)]; rfl)
  have hok := okSz_iff.1 (by assumption)
  obtain ⟨c, rfl⟩ := Int.eq_ofNat_of_zero_le hok.1.1
  obtain ⟨s, rfl⟩ := Int.eq_ofNat_of_zero_le (show 0 ≤ s by omega)
  have hw : writeTransfers (c : Int) (s : Int) r = wts s r c := by rw [writeTransfers, if_pos (by assumption)]; rfl
  conv => whnf
  refine ⟨Nat, fun i => i ≤ c, fun i => ⟨[(1, vi s), (2, vi r), (7, .c (.ref 0)), (16, vi c), (17, vi i)], [(0, .row true true 3 ((wts s r i).map DTransfer.e))], 1⟩, fun i => c - i, 0, Nat.zero_le _, ⟨[(0, some 0)], rfl, rfl, rfl, ?_, ?_⟩, fun i (hi : i ≤ c) => ?_⟩
  all_goals repeat' (first
    | (with_reducible rfl)
    | (conv => whnf
       first
         | exact trivial
         | (with_reducible rfl)
         | exact (rfl : (0 : Int) = ((0 : Nat) : Int))
         | exact w64_nat (by (try dsimp only); first | omega | exact lt_map (by assumption) | exact ge_map (by assumption) | (have := lt_map (by assumption); omega) | (have := ge_map (by assumption); omega) | (have := lt_mkm (by assumption); omega) | (have := ge_mkm (by assumption); omega) | (have := lt_mkr (by assumption); omega) | (have := ge_mkr (by assumption); omega) | (simp only [List.length_map, List.length_replicate] at *; omega))
         | refine bcase_T (by first | with_reducible rfl | decide) ?_
         | refine bcase_F (by first | with_reducible rfl | decide) ?_
         | refine bcase_dec (fun _ => ?_) (fun _ => ?_)
         | refine bcase_not ?_
         | refine bcase_intro (fun _ => ?_) (fun _ => ?_)
         | refine ⟨(by with_reducible rfl), ?_⟩
         | refine ⟨congrArg vi ?_, ?_⟩
         | refine ⟨congrArg vb ?_, ?_⟩
         | refine ⟨rfl, ?_⟩
         | refine ⟨(by kernel_rfl : drawOK _ = true), ?_⟩
         | refine Or.inl ?_
         | refine ⟨⟨congrArg (T.int _) ?_, rfl⟩, ?_⟩
         | refine ⟨⟨congrArg T.bool ?_, rfl⟩, ?_⟩
         | refine ⟨⟨rfl, Nat.le_of_ble_eq_true rfl⟩, ?_⟩
         | refine ⟨⟨rfl, rfl⟩, ?_⟩
         | refine ⟨⟨rfl, (by decide)⟩, ?_⟩
         | refine ⟨⟨rfl, ?_⟩, ?_⟩
         | refine ⟨Or.inr rfl, ?_⟩
         | refine ⟨Or.inl rfl, ?_⟩
         | refine ⟨⟨⟨rfl, rfl, rfl⟩, ?_⟩, ?_⟩
         | refine ⟨_, _, rfl, row_get _ _ (by (try dsimp only); first | omega | exact lt_map (by assumption) | exact ge_map (by assumption) | (have := lt_map (by assumption); omega) | (have := ge_map (by assumption); omega) | (have := lt_mkm (by assumption); omega) | (have := ge_mkm (by assumption); omega) | (have := lt_mkr (by assumption); omega) | (have := ge_mkr (by assumption); omega) | (simp only [List.length_map, List.length_replicate] at *; omega)), rfl, ?_⟩
         | refine ⟨(?_ : _ = ([] : List (List T))), ?_⟩
         | fail))
  any_goals (simp [wts]; done)
  any_goals (rw [hw, show i = c by omega]; done)
  conv => whnf
  refine ⟨Nat, fun j => j ≤ s, fun j => ⟨[(1, vi s), (2, vi r), (7, .c (.ref 0)), (8, vi i), (16, vi c), (17, vi i), (20, vi s), (21, vi j)], [(0, .row true true 3 ((wts s r i ++ wrow r i j).map DTransfer.e))], 1⟩, fun j => s - j, 0, Nat.zero_le _, ⟨[(0, some 0)], rfl, rfl, rfl, ?_, ?_⟩, fun j (hj : j ≤ s) => ?_⟩
  all_goals repeat' (first
    | (with_reducible rfl)
    | (conv => whnf
       first
         | exact trivial
         | (with_reducible rfl)
         | exact (rfl : (0 : Int) = ((0 : Nat) : Int))
         | exact w64_nat (by (try dsimp only); first | omega | exact lt_map (by assumption) | exact ge_map (by assumption) | (have := lt_map (by assumption); omega) | (have := ge_map (by assumption); omega) | (have := lt_mkm (by assumption); omega) | (have := ge_mkm (by assumption); omega) | (have := lt_mkr (by assumption); omega) | (have := ge_mkr (by assumption); omega) | (simp only [List.length_map, List.length_replicate] at *; omega))
         | refine bcase_T (by first | with_reducible rfl | decide) ?_
         | refine bcase_F (by first | with_reducible rfl | decide) ?_
         | refine bcase_dec (fun _ => ?_) (fun _ => ?_)
         | refine bcase_not ?_
         | refine bcase_intro (fun _ => ?_) (fun _ => ?_)
         | refine ⟨(by with_reducible rfl), ?_⟩
         | refine ⟨congrArg vi ?_, ?_⟩
         | refine ⟨congrArg vb ?_, ?_⟩
         | refine ⟨rfl, ?_⟩
         | refine ⟨(by kernel_rfl : drawOK _ = true), ?_⟩
         | refine Or.inl ?_
         | refine ⟨⟨congrArg (T.int _) ?_, rfl⟩, ?_⟩
         | refine ⟨⟨congrArg T.bool ?_, rfl⟩, ?_⟩
         | refine ⟨⟨rfl, Nat.le_of_ble_eq_true rfl⟩, ?_⟩
         | refine ⟨⟨rfl, rfl⟩, ?_⟩
         | refine ⟨⟨rfl, (by decide)⟩, ?_⟩
         | refine ⟨⟨rfl, ?_⟩, ?_⟩
         | refine ⟨Or.inr rfl, ?_⟩
         | refine ⟨Or.inl rfl, ?_⟩
         | refine ⟨⟨⟨rfl, rfl, rfl⟩, ?_⟩, ?_⟩
         | refine ⟨_, _, rfl, row_get _ _ (by (try dsimp only); first | omega | exact lt_map (by assumption) | exact ge_map (by assumption) | (have := lt_map (by assumption); omega) | (have := ge_map (by assumption); omega) | (have := lt_mkm (by assumption); omega) | (have := ge_mkm (by assumption); omega) | (have := lt_mkr (by assumption); omega) | (have := ge_mkr (by assumption); omega) | (simp only [List.length_map, List.length_replicate] at *; omega)), rfl, ?_⟩
         | refine ⟨(?_ : _ = ([] : List (List T))), ?_⟩
         | refine ⟨_, c_ShareSize _, ?_⟩
         | refine ⟨true, fun _ => (by simp [isScal]), ⟨rfl, rfl⟩, ⟨(by have h1 := wts_len s r i; have h2 := wrow_len r i j; have h3 : i * s ≤ 8 * 4 := Nat.mul_le_mul (by omega) (by omega); simp only [List.length_map, List.length_append, List.length_cons, List.length_nil]; show _ * 24 ≤ _; omega), (by have h1 := wts_len s r i; have h2 := wrow_len r i j; have h3 : i * s ≤ 8 * 4 := Nat.mul_le_mul (by omega) (by omega); simp only [List.length_map, List.length_append, List.length_cons, List.length_nil]; omega)⟩, ?_⟩
         | refine ⟨j + 1, ⟨(by (try dsimp only); first | omega | exact lt_map (by assumption) | exact ge_map (by assumption) | (have := lt_map (by assumption); omega) | (have := ge_map (by assumption); omega) | (have := lt_mkm (by assumption); omega) | (have := ge_mkm (by assumption); omega) | (have := lt_mkr (by assumption); omega) | (have := ge_mkr (by assumption); omega) | (simp only [List.length_map, List.length_replicate] at *; omega)), (by (try dsimp only); first | omega | exact lt_map (by assumption) | exact ge_map (by assumption) | (have := lt_map (by assumption); omega) | (have := ge_map (by assumption); omega) | (have := lt_mkm (by assumption); omega) | (have := ge_mkm (by assumption); omega) | (have := lt_mkr (by assumption); omega) | (have := ge_mkr (by assumption); omega) | (simp only [List.length_map, List.length_replicate] at *; omega))⟩, ⟨[(0, some 2)], rfl, rfl, rfl, ?_, ?_⟩⟩
         | refine ⟨i + 1, ⟨(by (try dsimp only); first | omega | exact lt_map (by assumption) | exact ge_map (by assumption) | (have := lt_map (by assumption); omega) | (have := ge_map (by assumption); omega) | (have := lt_mkm (by assumption); omega) | (have := ge_mkm (by assumption); omega) | (have := lt_mkr (by assumption); omega) | (have := ge_mkr (by assumption); omega) | (simp only [List.length_map, List.length_replicate] at *; omega)), (by (try dsimp only); first | omega | exact lt_map (by assumption) | exact ge_map (by assumption) | (have := lt_map (by assumption); omega) | (have := ge_map (by assumption); omega) | (have := lt_mkm (by assumption); omega) | (have := ge_mkm (by assumption); omega) | (have := lt_mkr (by assumption); omega) | (have := ge_mkr (by assumption); omega) | (simp only [List.length_map, List.length_replicate] at *; omega))⟩, ⟨[(0, some 0)], rfl, rfl, rfl, ?_, ?_⟩⟩
         | fail))
  · simp [wrow]
  · rw [wrow_succ, w64_ok (by omega) (by omega)]; simp [DTransfer.e]
  · rw [wts_succ, show j = s by omega]
theorem c_sWriteTransfers (c s r : Int) : FnAt Try.prog 28 [.one (I c), .one (I s), .one (I r)] [.one (.l 3 ((writeTransfers c s r).map DTransfer.e))] := by
  by_cases hok' : okSz c s r = true
  · have hok := okSz_iff.1 hok'
    obtain ⟨c, rfl⟩ := Int.eq_ofNat_of_zero_le hok.1.1
    obtain ⟨s, rfl⟩ := Int.eq_ofNat_of_zero_le (show 0 ≤ s by omega)
    have hw : writeTransfers (c : Int) (s : Int) r = wts s r c := by rw [writeTransfers, if_pos hok']; rfl
    refine fn_of Try.func28 rfl (by kernel_rfl) rfl ?_
    all_goals repeat' (first
      | (with_reducible rfl)
      | (conv => whnf
         first
           | exact trivial
           | (with_reducible rfl)
           | exact (rfl : (0 : Int) = ((0 : Nat) : Int))
           | exact w64_nat (by (try dsimp only); first | omega | exact lt_map (by assumption) | exact ge_map (by assumption) | (have := lt_map (by assumption); omega) | (have := ge_map (by assumption); omega) | (have := lt_mkm (by assumption); omega) | (have := ge_mkm (by assumption); omega) | (have := lt_mkr (by assumption); omega) | (have := ge_mkr (by assumption); omega) | (simp only [List.length_map, List.length_replicate] at *; omega))
           | refine bcase_T (by first | with_reducible rfl | decide) ?_
           | refine bcase_F (by first | with_reducible rfl | decide) ?_
           | refine bcase_dec (fun _ => ?_) (fun _ => ?_)
           | refine bcase_not ?_
           | refine bcase_intro (fun _ => ?_) (fun _ => ?_)
           | refine ⟨(by with_reducible rfl), ?_⟩
           | refine ⟨congrArg vi ?_, ?_⟩
           | refine ⟨congrArg vb ?_, ?_⟩
           | refine ⟨rfl, ?_⟩
           | refine ⟨(by kernel_rfl : drawOK _ = true), ?_⟩
           | refine Or.inl ?_
           | refine ⟨⟨congrArg (T.int _) ?_, rfl⟩, ?_⟩
           | refine ⟨⟨congrArg T.bool ?_, rfl⟩, ?_⟩
           | refine ⟨⟨rfl, Nat.le_of_ble_eq_true rfl⟩, ?_⟩
           | refine ⟨⟨rfl, rfl⟩, ?_⟩
           | refine ⟨⟨rfl, (by decide)⟩, ?_⟩
           | refine ⟨⟨rfl, ?_⟩, ?_⟩
           | refine ⟨Or.inr rfl, ?_⟩
           | refine ⟨Or.inl rfl, ?_⟩
           | refine ⟨⟨⟨rfl, rfl, rfl⟩, ?_⟩, ?_⟩
           | refine ⟨_, _, rfl, row_get _ _ (by (try dsimp only); first | omega | exact lt_map (by assumption) | exact ge_map (by assumption) | (have := lt_map (by assumption); omega) | (have := ge_map (by assumption); omega) | (have := lt_mkm (by assumption); omega) | (have := ge_mkm (by assumption); omega) | (have := lt_mkr (by assumption); omega) | (have := ge_mkr (by assumption); omega) | (simp only [List.length_map, List.length_replicate] at *; omega)), rfl, ?_⟩
           | refine ⟨(?_ : _ = ([] : List (List T))), ?_⟩
           | fail))
    conv => whnf
    refine ⟨Nat, fun i => i ≤ c, fun i => ⟨[(0, vi c), (1, vi s), (2, vi r), (7, .c (.ref 0)), (8, vi i)], [(0, .row true true 3 ((wts s r i).map DTransfer.e))], 1⟩, fun i => c - i, 0, Nat.zero_le _, sub_at [(0, 7)] rfl rfl rfl ?_ ?_, fun i (hi : i ≤ c) => ?_⟩
    all_goals repeat' (first
      | (with_reducible rfl)
      | (conv => whnf
         first
           | exact trivial
           | (with_reducible rfl)
           | exact (rfl : (0 : Int) = ((0 : Nat) : Int))
           | exact w64_nat (by (try dsimp only); first | omega | exact lt_map (by assumption) | exact ge_map (by assumption) | (have := lt_map (by assumption); omega) | (have := ge_map (by assumption); omega) | (have := lt_mkm (by assumption); omega) | (have := ge_mkm (by assumption); omega) | (have := lt_mkr (by assumption); omega) | (have := ge_mkr (by assumption); omega) | (simp only [List.length_map, List.length_replicate] at *; omega))
           | refine bcase_T (by first | with_reducible rfl | decide) ?_
           | refine bcase_F (by first | with_reducible rfl | decide) ?_
           | refine bcase_dec (fun _ => ?_) (fun _ => ?_)
           | refine bcase_not ?_
           | refine bcase_intro (fun _ => ?_) (fun _ => ?_)
           | refine ⟨(by with_reducible rfl), ?_⟩
           | refine ⟨congrArg vi ?_, ?_⟩
           | refine ⟨congrArg vb ?_, ?_⟩
           | refine ⟨rfl, ?_⟩
           | refine ⟨(by kernel_rfl : drawOK _ = true), ?_⟩
           | refine Or.inl ?_
           | refine ⟨⟨congrArg (T.int _) ?_, rfl⟩, ?_⟩
           | refine ⟨⟨congrArg T.bool ?_, rfl⟩, ?_⟩
           | refine ⟨⟨rfl, Nat.le_of_ble_eq_true rfl⟩, ?_⟩
           | refine ⟨⟨rfl, rfl⟩, ?_⟩
           | refine ⟨⟨rfl, (by decide)⟩, ?_⟩
           | refine ⟨⟨rfl, ?_⟩, ?_⟩
           | refine ⟨Or.inr rfl, ?_⟩
           | refine ⟨Or.inl rfl, ?_⟩
           | refine ⟨⟨⟨rfl, rfl, rfl⟩, ?_⟩, ?_⟩
           | refine ⟨_, _, rfl, row_get _ _ (by (try dsimp only); first | omega | exact lt_map (by assumption) | exact ge_map (by assumption) | (have := lt_map (by assumption); omega) | (have := ge_map (by assumption); omega) | (have := lt_mkm (by assumption); omega) | (have := ge_mkm (by assumption); omega) | (have := lt_mkr (by assumption); omega) | (have := ge_mkr (by assumption); omega) | (simp only [List.length_map, List.length_replicate] at *; omega)), rfl, ?_⟩
           | refine ⟨(?_ : _ = ([] : List (List T))), ?_⟩
           | refine ⟨_, c_l31Ok _ _ _, ?_⟩
           | fail))
    all_goals (first | (simp [wts]; done) | (rw [hw, show i = c by omega]; done) | (simp_all; done) | skip)
    conv => whnf
    refine ⟨Nat, fun j => j ≤ s, fun j => ⟨[(0, vi c), (1, vi s), (2, vi r), (7, .c (.ref 0)), (8, vi i), (9, vi j)], [(0, .row true true 3 ((wts s r i ++ wrow r i j).map DTransfer.e))], 1⟩, fun j => s - j, 0, Nat.zero_le _, sub_at [(0, 7)] rfl rfl rfl ?_ ?_, fun j (hj : j ≤ s) => ?_⟩
    all_goals repeat' (first
      | (with_reducible rfl)
      | (conv => whnf
         first
           | exact trivial
           | (with_reducible rfl)
           | exact (rfl : (0 : Int) = ((0 : Nat) : Int))
           | exact w64_nat (by (try dsimp only); first | omega | exact lt_map (by assumption) | exact ge_map (by assumption) | (have := lt_map (by assumption); omega) | (have := ge_map (by assumption); omega) | (have := lt_mkm (by assumption); omega) | (have := ge_mkm (by assumption); omega) | (have := lt_mkr (by assumption); omega) | (have := ge_mkr (by assumption); omega) | (simp only [List.length_map, List.length_replicate] at *; omega))
           | refine bcase_T (by first | with_reducible rfl | decide) ?_
           | refine bcase_F (by first | with_reducible rfl | decide) ?_
           | refine bcase_dec (fun _ => ?_) (fun _ => ?_)
           | refine bcase_not ?_
           | refine bcase_intro (fun _ => ?_) (fun _ => ?_)
           | refine ⟨(by with_reducible rfl), ?_⟩
           | refine ⟨congrArg vi ?_, ?_⟩
           | refine ⟨congrArg vb ?_, ?_⟩
           | refine ⟨rfl, ?_⟩
           | refine ⟨(by kernel_rfl : drawOK _ = true), ?_⟩
           | refine Or.inl ?_
           | refine ⟨⟨congrArg (T.int _) ?_, rfl⟩, ?_⟩
           | refine ⟨⟨congrArg T.bool ?_, rfl⟩, ?_⟩
           | refine ⟨⟨rfl, Nat.le_of_ble_eq_true rfl⟩, ?_⟩
           | refine ⟨⟨rfl, rfl⟩, ?_⟩
           | refine ⟨⟨rfl, (by decide)⟩, ?_⟩
           | refine ⟨⟨rfl, ?_⟩, ?_⟩
           | refine ⟨Or.inr rfl, ?_⟩
           | refine ⟨Or.inl rfl, ?_⟩
           | refine ⟨⟨⟨rfl, rfl, rfl⟩, ?_⟩, ?_⟩
           | refine ⟨_, _, rfl, row_get _ _ (by (try dsimp only); first | omega | exact lt_map (by assumption) | exact ge_map (by assumption) | (have := lt_map (by assumption); omega) | (have := ge_map (by assumption); omega) | (have := lt_mkm (by assumption); omega) | (have := ge_mkm (by assumption); omega) | (have := lt_mkr (by assumption); omega) | (have := ge_mkr (by assumption); omega) | (simp only [List.length_map, List.length_replicate] at *; omega)), rfl, ?_⟩
           | refine ⟨(?_ : _ = ([] : List (List T))), ?_⟩
           | refine ⟨_, c_sShareSize _, ?_⟩
           | refine ⟨true, fun _ => (by simp [isScal]), ⟨rfl, rfl⟩, ⟨(by have h1 := wts_len s r i; have h2 := wrow_len r i j; have h3 : i * s ≤ 8 * 4 := Nat.mul_le_mul (by omega) (by omega); simp only [List.length_map, List.length_append, List.length_cons, List.length_nil]; show _ * 24 ≤ _; omega), (by have h1 := wts_len s r i; have h2 := wrow_len r i j; have h3 : i * s ≤ 8 * 4 := Nat.mul_le_mul (by omega) (by omega); simp only [List.length_map, List.length_append, List.length_cons, List.length_nil]; omega)⟩, ?_⟩
           | refine ⟨j + 1, ⟨(by (try dsimp only); first | omega | exact lt_map (by assumption) | exact ge_map (by assumption) | (have := lt_map (by assumption); omega) | (have := ge_map (by assumption); omega) | (have := lt_mkm (by assumption); omega) | (have := ge_mkm (by assumption); omega) | (have := lt_mkr (by assumption); omega) | (have := ge_mkr (by assumption); omega) | (simp only [List.length_map, List.length_replicate] at *; omega)), (by (try dsimp only); first | omega | exact lt_map (by assumption) | exact ge_map (by assumption) | (have := lt_map (by assumption); omega) | (have := ge_map (by assumption); omega) | (have := lt_mkm (by assumption); omega) | (have := ge_mkm (by assumption); omega) | (have := lt_mkr (by assumption); omega) | (have := ge_mkr (by assumption); omega) | (simp only [List.length_map, List.length_replicate] at *; omega))⟩, sub_at [(0, 7)] rfl rfl rfl ?_ ?_⟩
           | refine ⟨i + 1, ⟨(by (try dsimp only); first | omega | exact lt_map (by assumption) | exact ge_map (by assumption) | (have := lt_map (by assumption); omega) | (have := ge_map (by assumption); omega) | (have := lt_mkm (by assumption); omega) | (have := ge_mkm (by assumption); omega) | (have := lt_mkr (by assumption); omega) | (have := ge_mkr (by assumption); omega) | (simp only [List.length_map, List.length_replicate] at *; omega)), (by (try dsimp only); first | omega | exact lt_map (by assumption) | exact ge_map (by assumption) | (have := lt_map (by assumption); omega) | (have := ge_map (by assumption); omega) | (have := lt_mkm (by assumption); omega) | (have := ge_mkm (by assumption); omega) | (have := lt_mkr (by assumption); omega) | (have := ge_mkr (by assumption); omega) | (simp only [List.length_map, List.length_replicate] at *; omega))⟩, sub_at [(0, 7)] rfl rfl rfl ?_ ?_⟩
           | fail))
    · simp [wrow]
    · rw [wrow_succ, w64_ok (by omega) (by omega)]; simp [DTransfer.e]
    · rw [wts_succ, show j = s by omega]
  · refine fn_of Try.func28 rfl (by kernel_rfl) rfl ?_
    all_goals repeat' (first
      | (with_reducible rfl)
      | (conv => whnf
         first
           | exact trivial
           | (with_reducible rfl)
           | exact (rfl : (0 : Int) = ((0 : Nat) : Int))
           | exact w64_nat (by (try dsimp only); first | omega | exact lt_map (by assumption) | exact ge_map (by assumption) | (have := lt_map (by assumption); omega) | (have := ge_map (by assumption); omega) | (have := lt_mkm (by assumption); omega) | (have := ge_mkm (by assumption); omega) | (have := lt_mkr (by assumption); omega) | (have := ge_mkr (by assumption); omega) | (simp only [List.length_map, List.length_replicate] at *; omega))
           | refine bcase_T (by first | with_reducible rfl | decide) ?_
           | refine bcase_F (by first | with_reducible rfl | decide) ?_
           | refine bcase_dec (fun _ => ?_) (fun _ => ?_)
           | refine bcase_not ?_
           | refine bcase_intro (fun _ => ?_) (fun _ => ?_)
           | refine ⟨(by with_reducible rfl), ?_⟩
           | refine ⟨congrArg vi ?_, ?_⟩
           | refine ⟨congrArg vb ?_, ?_⟩
           | refine ⟨rfl, ?_⟩
           | refine ⟨(by kernel_rfl : drawOK _ = true), ?_⟩
           | refine Or.inl ?_
           | refine ⟨⟨congrArg (T.int _) ?_, rfl⟩, ?_⟩
           | refine ⟨⟨congrArg T.bool ?_, rfl⟩, ?_⟩
           | refine ⟨⟨rfl, Nat.le_of_ble_eq_true rfl⟩, ?_⟩
           | refine ⟨⟨rfl, rfl⟩, ?_⟩
           | refine ⟨⟨rfl, (by decide)⟩, ?_⟩
           | refine ⟨⟨rfl, ?_⟩, ?_⟩
           | refine ⟨Or.inr rfl, ?_⟩
           | refine ⟨Or.inl rfl, ?_⟩
           | refine ⟨⟨⟨rfl, rfl, rfl⟩, ?_⟩, ?_⟩
           | refine ⟨_, _, rfl, row_get _ _ (by (try dsimp only); first | omega | exact lt_map (by assumption) | exact ge_map (by assumption) | (have := lt_map (by assumption); omega) | (have := ge_map (by assumption); omega) | (have := lt_mkm (by assumption); omega) | (have := ge_mkm (by assumption); omega) | (have := lt_mkr (by assumption); omega) | (have := ge_mkr (by assumption); omega) | (simp only [List.length_map, List.length_replicate] at *; omega)), rfl, ?_⟩
           | refine ⟨(?_ : _ = ([] : List (List T))), ?_⟩
           | fail))
    conv => whnf
    refine ⟨Nat, fun i => i = 0, fun i => ⟨[(0, vi c), (1, vi s), (2, vi r), (7, .c (.ref 0)), (8, vi i)], [(0, .row true true 3 [])], 1⟩, fun i => i, 0, rfl, sub_at [(0, 7)] rfl rfl rfl ?_ ?_, fun i (hi : i = 0) => ?_⟩
    all_goals repeat' (first
      | (with_reducible rfl)
      | (conv => whnf
         first
           | exact trivial
           | (with_reducible rfl)
           | exact (rfl : (0 : Int) = ((0 : Nat) : Int))
           | exact w64_nat (by (try dsimp only); first | omega | exact lt_map (by assumption) | exact ge_map (by assumption) | (have := lt_map (by assumption); omega) | (have := ge_map (by assumption); omega) | (have := lt_mkm (by assumption); omega) | (have := ge_mkm (by assumption); omega) | (have := lt_mkr (by assumption); omega) | (have := ge_mkr (by assumption); omega) | (simp only [List.length_map, List.length_replicate] at *; omega))
           | refine bcase_T (by first | with_reducible rfl | decide) ?_
           | refine bcase_F (by first | with_reducible rfl | decide) ?_
           | refine bcase_dec (fun _ => ?_) (fun _ => ?_)
           | refine bcase_not ?_
           | refine bcase_intro (fun _ => ?_) (fun _ => ?_)
           | refine ⟨(by with_reducible rfl), ?_⟩
           | refine ⟨congrArg vi ?_, ?_⟩
           | refine ⟨congrArg vb ?_, ?_⟩
           | refine ⟨rfl, ?_⟩
           | refine ⟨(by kernel_rfl : drawOK _ = true), ?_⟩
           | refine Or.inl ?_
           | refine ⟨⟨congrArg (T.int _) ?_, rfl⟩, ?_⟩
           | refine ⟨⟨congrArg T.bool ?_, rfl⟩, ?_⟩
           | refine ⟨⟨rfl, Nat.le_of_ble_eq_true rfl⟩, ?_⟩
           | refine ⟨⟨rfl, rfl⟩, ?_⟩
           | refine ⟨⟨rfl, (by decide)⟩, ?_⟩
           | refine ⟨⟨rfl, ?_⟩, ?_⟩
           | refine ⟨Or.inr rfl, ?_⟩
           | refine ⟨Or.inl rfl, ?_⟩
           | refine ⟨⟨⟨rfl, rfl, rfl⟩, ?_⟩, ?_⟩
           | refine ⟨_, _, rfl, row_get _ _ (by (try dsimp only); first | omega | exact lt_map (by assumption) | exact ge_map (by assumption) | (have := lt_map (by assumption); omega) | (have := ge_map (by assumption); omega) | (have := lt_mkm (by assumption); omega) | (have := ge_mkm (by assumption); omega) | (have := lt_mkr (by assumption); omega) | (have := ge_mkr (by assumption); omega) | (simp only [List.length_map, List.length_replicate] at *; omega)), rfl, ?_⟩
           | refine ⟨(?_ : _ = ([] : List (List T))), ?_⟩
           | refine ⟨_, c_l31Ok _ _ _, ?_⟩
           | fail))
    all_goals (first | (rw [writeTransfers, if_neg hok']; rfl) | (simp_all; done))
theorem c_FnExactWriteTransfers (a0 : Int) (a1 : Int) (a2 : Int) (_k0 : okI a0) (_k1 : okI a1) (_k2 : okI a2) : FnAt Try.prog 8 [.one (I a0), .one (I a1), .one (I a2)] [.one (.s (.bool true))] := by
  have hr := writeTransfers_len a0 a1 a2
  have hc := cnt_TransferS (writeTransfers a0 a1 a2)
  refine fn_of Try.func8 rfl (by kernel_rfl) rfl ?_
  all_goals repeat' (first
    | (with_reducible rfl)
    | (conv => whnf
       first
         | refine bcase_szS (fun _ => ?_) (fun _ _ => ?_)
         | refine bcase_F (by first | rfl | (rw [decide_eq_false_iff_not]; omega) | (refine bne_eq_false_iff_eq.2 ?_; omega)) ?_
         | (refine Or.inl ?_; (conv => whnf); first | refine ⟨_, c_sWriteTransfers a0 a1 a2, ?_⟩ | refine ⟨_, c_WriteTransfers a0 a1 a2, ?_⟩ | refine ⟨_, c_eqTransferS _ (by first | assumption | omega | (omega)), ?_⟩ | refine ⟨_, c_heldTransferS _ _ (by first | assumption | omega | (omega)) (by first | assumption | omega | (omega)), ?_⟩)
         | (refine Or.inr ⟨rfl, Or.inr ?_⟩; (conv => whnf); first | refine ⟨rfl, _, _, c_markTransferS _ _ (by first | assumption | omega | (omega)) (by first | assumption | omega | (omega)), ?_⟩)
         | exact trivial
         | (with_reducible rfl)
         | exact (rfl : (0 : Int) = ((0 : Nat) : Int))
         | exact w64_nat (by (try dsimp only); first | omega | exact lt_map (by assumption) | exact ge_map (by assumption) | (have := lt_map (by assumption); omega) | (have := ge_map (by assumption); omega) | (have := lt_mkm (by assumption); omega) | (have := ge_mkm (by assumption); omega) | (have := lt_mkr (by assumption); omega) | (have := ge_mkr (by assumption); omega) | (simp only [List.length_map, List.length_replicate] at *; omega))
         | refine bcase_T (by first | with_reducible rfl | decide) ?_
         | refine bcase_F (by first | with_reducible rfl | decide) ?_
         | refine bcase_dec (fun _ => ?_) (fun _ => ?_)
         | refine bcase_not ?_
         | refine bcase_intro (fun _ => ?_) (fun _ => ?_)
         | refine ⟨(by with_reducible rfl), ?_⟩
         | refine ⟨congrArg vi ?_, ?_⟩
         | refine ⟨congrArg vb ?_, ?_⟩
         | refine ⟨rfl, ?_⟩
         | refine ⟨(by kernel_rfl : drawOK _ = true), ?_⟩
         | refine Or.inl ?_
         | refine ⟨⟨congrArg (T.int _) ?_, rfl⟩, ?_⟩
         | refine ⟨⟨congrArg T.bool ?_, rfl⟩, ?_⟩
         | refine ⟨⟨rfl, Nat.le_of_ble_eq_true rfl⟩, ?_⟩
         | refine ⟨⟨rfl, rfl⟩, ?_⟩
         | refine ⟨⟨rfl, (by decide)⟩, ?_⟩
         | refine ⟨⟨rfl, ?_⟩, ?_⟩
         | refine ⟨Or.inr rfl, ?_⟩
         | refine ⟨Or.inl rfl, ?_⟩
         | refine ⟨⟨⟨rfl, rfl, rfl⟩, ?_⟩, ?_⟩
         | refine ⟨_, _, rfl, row_get _ _ (by (try dsimp only); first | omega | exact lt_map (by assumption) | exact ge_map (by assumption) | (have := lt_map (by assumption); omega) | (have := ge_map (by assumption); omega) | (have := lt_mkm (by assumption); omega) | (have := ge_mkm (by assumption); omega) | (have := lt_mkr (by assumption); omega) | (have := ge_mkr (by assumption); omega) | (simp only [List.length_map, List.length_replicate] at *; omega)), rfl, ?_⟩
         | refine ⟨(?_ : _ = ([] : List (List T))), ?_⟩
         | fail))
  all_goals (first | rfl | (simp_all; done))
/-- The transfers that one server publishes. -/
def prow (r : Int) (a : Nat) (n : Nat) : List DTransfer := (List.range n).flatMap fun k : Nat => if a = k then [] else [⟨100 + a, 100 + k, shareSize r⟩]
def pts (s : Nat) (r : Int) (n : Nat) : List DTransfer := (List.range n).flatMap fun a => prow r a s
def publishTransfers (s r : Int) : List DTransfer := if okSz 0 s r then pts s.toNat r s.toNat else []
theorem prow_succ (r : Int) (a n : Nat) : prow r a (n + 1) = prow r a n ++ if a = n then [] else [⟨100 + (a : Int), 100 + (n : Int), shareSize r⟩] := by simp [prow, List.range_succ]
theorem pts_succ (s : Nat) (r : Int) (n : Nat) : pts s r (n + 1) = pts s r n ++ prow r n s := by simp [pts, List.range_succ]
theorem prow_len (r : Int) (a n : Nat) : (prow r a n).length ≤ n := by
  induction n with
  | zero => simp [prow]
  | succ n ih => rw [prow_succ, List.length_append]; split <;> simp <;> omega
theorem pts_len (s : Nat) (r : Int) (n : Nat) : (pts s r n).length ≤ n * s := by
  induction n with
  | zero => simp [pts]
  | succ n ih => rw [pts_succ, List.length_append, Nat.add_mul, Nat.one_mul]; have := prow_len r n s; omega
theorem publishTransfers_len (s r : Int) : (publishTransfers s r).length ≤ 16 := by
  unfold publishTransfers
  split
  · rename_i h
    have h := okSz_iff.1 h
    refine Nat.le_trans (pts_len _ _ _) ?_
    have h2 : s.toNat ≤ 4 := by omega
    exact Nat.le_trans (Nat.mul_le_mul h2 h2) (by decide)
  · simp
theorem c_PublishTransfers (s r : Int) : FnAt Try.prog 35 [.one (I s), .one (I r)] [.one (.l 3 ((publishTransfers s r).map DTransfer.e))] := by
  refine fn_of Try.func35 rfl (by kernel_rfl) rfl ?_
  all_goals repeat' (first
    | (with_reducible rfl)
    | (conv => whnf
       first
         | exact trivial
         | (with_reducible rfl)
         | exact (rfl : (0 : Int) = ((0 : Nat) : Int))
         | exact w64_nat (by (try dsimp only); first | omega | exact lt_map (by assumption) | exact ge_map (by assumption) | (have := lt_map (by assumption); omega) | (have := ge_map (by assumption); omega) | (have := lt_mkm (by assumption); omega) | (have := ge_mkm (by assumption); omega) | (have := lt_mkr (by assumption); omega) | (have := ge_mkr (by assumption); omega) | (simp only [List.length_map, List.length_replicate] at *; omega))
         | refine bcase_T (by first | with_reducible rfl | decide) ?_
         | refine bcase_F (by first | with_reducible rfl | decide) ?_
         | refine bcase_dec (fun _ => ?_) (fun _ => ?_)
         | refine bcase_not ?_
         | refine bcase_intro (fun _ => ?_) (fun _ => ?_)
         | refine ⟨(by with_reducible rfl), ?_⟩
         | refine ⟨congrArg vi ?_, ?_⟩
         | refine ⟨congrArg vb ?_, ?_⟩
         | refine ⟨rfl, ?_⟩
         | refine ⟨(by kernel_rfl : drawOK _ = true), ?_⟩
         | refine Or.inl ?_
         | refine ⟨⟨congrArg (T.int _) ?_, rfl⟩, ?_⟩
         | refine ⟨⟨congrArg T.bool ?_, rfl⟩, ?_⟩
         | refine ⟨⟨rfl, Nat.le_of_ble_eq_true rfl⟩, ?_⟩
         | refine ⟨⟨rfl, rfl⟩, ?_⟩
         | refine ⟨⟨rfl, (by decide)⟩, ?_⟩
         | refine ⟨⟨rfl, ?_⟩, ?_⟩
         | refine ⟨Or.inr rfl, ?_⟩
         | refine ⟨Or.inl rfl, ?_⟩
         | refine ⟨⟨⟨rfl, rfl, rfl⟩, ?_⟩, ?_⟩
         | refine ⟨_, _, rfl, row_get _ _ (by (try dsimp only); first | omega | exact lt_map (by assumption) | exact ge_map (by assumption) | (have := lt_map (by assumption); omega) | (have := ge_map (by assumption); omega) | (have := lt_mkm (by assumption); omega) | (have := ge_mkm (by assumption); omega) | (have := lt_mkr (by assumption); omega) | (have := ge_mkr (by assumption); omega) | (simp only [List.length_map, List.length_replicate] at *; omega)), rfl, ?_⟩
         | refine ⟨(?_ : _ = ([] : List (List T))), ?_⟩
         | refine ⟨_, c_areSizes _ _ _, ?_⟩
         | fail))
  any_goals (rw [publishTransfers, if_neg (by simp_all)]; rfl)
  have hok' := (by assumption : okSz 0 s r = true)
  have hok := okSz_iff.1 hok'
  obtain ⟨s, rfl⟩ := Int.eq_ofNat_of_zero_le (show 0 ≤ s by omega)
  have hw : publishTransfers (s : Int) r = pts s r s := by rw [publishTransfers, if_pos hok']; rfl
  conv => whnf
  refine ⟨Nat, fun i => i ≤ s, fun i => ⟨[(0, vi s), (1, vi r), (5, .c (.ref 0)), (13, vi s), (14, vi i)], [(0, .row true true 3 ((pts s r i).map DTransfer.e))], 1⟩, fun i => s - i, 0, Nat.zero_le _, sub_at [(0, 5)] rfl rfl rfl ?_ ?_, fun i (hi : i ≤ s) => ?_⟩
  all_goals repeat' (first
    | (with_reducible rfl)
    | (conv => whnf
       first
         | exact trivial
         | (with_reducible rfl)
         | exact (rfl : (0 : Int) = ((0 : Nat) : Int))
         | exact w64_nat (by (try dsimp only); first | omega | exact lt_map (by assumption) | exact ge_map (by assumption) | (have := lt_map (by assumption); omega) | (have := ge_map (by assumption); omega) | (have := lt_mkm (by assumption); omega) | (have := ge_mkm (by assumption); omega) | (have := lt_mkr (by assumption); omega) | (have := ge_mkr (by assumption); omega) | (simp only [List.length_map, List.length_replicate] at *; omega))
         | refine bcase_T (by first | with_reducible rfl | decide) ?_
         | refine bcase_F (by first | with_reducible rfl | decide) ?_
         | refine bcase_dec (fun _ => ?_) (fun _ => ?_)
         | refine bcase_not ?_
         | refine bcase_intro (fun _ => ?_) (fun _ => ?_)
         | refine ⟨(by with_reducible rfl), ?_⟩
         | refine ⟨congrArg vi ?_, ?_⟩
         | refine ⟨congrArg vb ?_, ?_⟩
         | refine ⟨rfl, ?_⟩
         | refine ⟨(by kernel_rfl : drawOK _ = true), ?_⟩
         | refine Or.inl ?_
         | refine ⟨⟨congrArg (T.int _) ?_, rfl⟩, ?_⟩
         | refine ⟨⟨congrArg T.bool ?_, rfl⟩, ?_⟩
         | refine ⟨⟨rfl, Nat.le_of_ble_eq_true rfl⟩, ?_⟩
         | refine ⟨⟨rfl, rfl⟩, ?_⟩
         | refine ⟨⟨rfl, (by decide)⟩, ?_⟩
         | refine ⟨⟨rfl, ?_⟩, ?_⟩
         | refine ⟨Or.inr rfl, ?_⟩
         | refine ⟨Or.inl rfl, ?_⟩
         | refine ⟨⟨⟨rfl, rfl, rfl⟩, ?_⟩, ?_⟩
         | refine ⟨_, _, rfl, row_get _ _ (by (try dsimp only); first | omega | exact lt_map (by assumption) | exact ge_map (by assumption) | (have := lt_map (by assumption); omega) | (have := ge_map (by assumption); omega) | (have := lt_mkm (by assumption); omega) | (have := ge_mkm (by assumption); omega) | (have := lt_mkr (by assumption); omega) | (have := ge_mkr (by assumption); omega) | (simp only [List.length_map, List.length_replicate] at *; omega)), rfl, ?_⟩
         | refine ⟨(?_ : _ = ([] : List (List T))), ?_⟩
         | fail))
  all_goals (first | (simp [pts]; done) | (rw [hw, show i = s by omega]; done) | skip)
  conv => whnf
  refine ⟨Nat, fun j => j ≤ s, fun j => ⟨[(0, vi s), (1, vi r), (5, .c (.ref 0)), (6, vi i), (13, vi s), (14, vi i), (17, vi s), (18, vi j)], [(0, .row true true 3 ((pts s r i ++ prow r i j).map DTransfer.e))], 1⟩, fun j => s - j, 0, Nat.zero_le _, sub_at [(0, 5)] rfl rfl rfl ?_ ?_, fun j (hj : j ≤ s) => ?_⟩
  all_goals repeat' (first
    | (with_reducible rfl)
    | (conv => whnf
       first
         | exact trivial
         | (with_reducible rfl)
         | exact (rfl : (0 : Int) = ((0 : Nat) : Int))
         | exact w64_nat (by (try dsimp only); first | omega | exact lt_map (by assumption) | exact ge_map (by assumption) | (have := lt_map (by assumption); omega) | (have := ge_map (by assumption); omega) | (have := lt_mkm (by assumption); omega) | (have := ge_mkm (by assumption); omega) | (have := lt_mkr (by assumption); omega) | (have := ge_mkr (by assumption); omega) | (simp only [List.length_map, List.length_replicate] at *; omega))
         | refine bcase_T (by first | with_reducible rfl | decide) ?_
         | refine bcase_F (by first | with_reducible rfl | decide) ?_
         | refine bcase_dec (fun _ => ?_) (fun _ => ?_)
         | refine bcase_not ?_
         | refine bcase_intro (fun _ => ?_) (fun _ => ?_)
         | refine ⟨(by with_reducible rfl), ?_⟩
         | refine ⟨congrArg vi ?_, ?_⟩
         | refine ⟨congrArg vb ?_, ?_⟩
         | refine ⟨rfl, ?_⟩
         | refine ⟨(by kernel_rfl : drawOK _ = true), ?_⟩
         | refine Or.inl ?_
         | refine ⟨⟨congrArg (T.int _) ?_, rfl⟩, ?_⟩
         | refine ⟨⟨congrArg T.bool ?_, rfl⟩, ?_⟩
         | refine ⟨⟨rfl, Nat.le_of_ble_eq_true rfl⟩, ?_⟩
         | refine ⟨⟨rfl, rfl⟩, ?_⟩
         | refine ⟨⟨rfl, (by decide)⟩, ?_⟩
         | refine ⟨⟨rfl, ?_⟩, ?_⟩
         | refine ⟨Or.inr rfl, ?_⟩
         | refine ⟨Or.inl rfl, ?_⟩
         | refine ⟨⟨⟨rfl, rfl, rfl⟩, ?_⟩, ?_⟩
         | refine ⟨_, _, rfl, row_get _ _ (by (try dsimp only); first | omega | exact lt_map (by assumption) | exact ge_map (by assumption) | (have := lt_map (by assumption); omega) | (have := ge_map (by assumption); omega) | (have := lt_mkm (by assumption); omega) | (have := ge_mkm (by assumption); omega) | (have := lt_mkr (by assumption); omega) | (have := ge_mkr (by assumption); omega) | (simp only [List.length_map, List.length_replicate] at *; omega)), rfl, ?_⟩
         | refine ⟨(?_ : _ = ([] : List (List T))), ?_⟩
         | refine ⟨_, c_ShareSize _, ?_⟩
         | refine ⟨true, fun _ => (by simp [isScal]), ⟨rfl, rfl⟩, ⟨(by have h1 := pts_len s r i; have h2 := prow_len r i j; have h3 : i * s ≤ 4 * 4 := Nat.mul_le_mul (by omega) (by omega); simp only [List.length_map, List.length_append, List.length_cons, List.length_nil]; show _ * 24 ≤ _; omega), (by have h1 := pts_len s r i; have h2 := prow_len r i j; have h3 : i * s ≤ 4 * 4 := Nat.mul_le_mul (by omega) (by omega); simp only [List.length_map, List.length_append, List.length_cons, List.length_nil]; omega)⟩, ?_⟩
         | refine ⟨j + 1, ⟨(by (try dsimp only); first | omega | exact lt_map (by assumption) | exact ge_map (by assumption) | (have := lt_map (by assumption); omega) | (have := ge_map (by assumption); omega) | (have := lt_mkm (by assumption); omega) | (have := ge_mkm (by assumption); omega) | (have := lt_mkr (by assumption); omega) | (have := ge_mkr (by assumption); omega) | (simp only [List.length_map, List.length_replicate] at *; omega)), (by (try dsimp only); first | omega | exact lt_map (by assumption) | exact ge_map (by assumption) | (have := lt_map (by assumption); omega) | (have := ge_map (by assumption); omega) | (have := lt_mkm (by assumption); omega) | (have := ge_mkm (by assumption); omega) | (have := lt_mkr (by assumption); omega) | (have := ge_mkr (by assumption); omega) | (simp only [List.length_map, List.length_replicate] at *; omega))⟩, sub_at [(0, 5)] rfl rfl rfl ?_ ?_⟩
         | refine ⟨i + 1, ⟨(by (try dsimp only); first | omega | exact lt_map (by assumption) | exact ge_map (by assumption) | (have := lt_map (by assumption); omega) | (have := ge_map (by assumption); omega) | (have := lt_mkm (by assumption); omega) | (have := ge_mkm (by assumption); omega) | (have := lt_mkr (by assumption); omega) | (have := ge_mkr (by assumption); omega) | (simp only [List.length_map, List.length_replicate] at *; omega)), (by (try dsimp only); first | omega | exact lt_map (by assumption) | exact ge_map (by assumption) | (have := lt_map (by assumption); omega) | (have := ge_map (by assumption); omega) | (have := lt_mkm (by assumption); omega) | (have := ge_mkm (by assumption); omega) | (have := lt_mkr (by assumption); omega) | (have := ge_mkr (by assumption); omega) | (simp only [List.length_map, List.length_replicate] at *; omega))⟩, sub_at [(0, 5)] rfl rfl rfl ?_ ?_⟩
         | fail))
  · simp [prow]
  · rw [prow_succ, if_pos (by omega), List.append_nil]
  · rw [prow_succ, if_neg (by omega), w64_ok (by omega) (by omega), w64_ok (by omega) (by omega)]; simp [DTransfer.e]
  · rw [pts_succ, show j = s by omega]
theorem c_sPublishTransfers (s r : Int) : FnAt Try.prog 36 [.one (I s), .one (I r)] [.one (.l 3 ((publishTransfers s r).map DTransfer.e))] := by
  by_cases hok' : okSz 0 s r = true
  · have hok := okSz_iff.1 hok'
    obtain ⟨s, rfl⟩ := Int.eq_ofNat_of_zero_le (show 0 ≤ s by omega)
    have hw : publishTransfers (s : Int) r = pts s r s := by rw [publishTransfers, if_pos hok']; rfl
    refine fn_of Try.func36 rfl (by kernel_rfl) rfl ?_
    all_goals repeat' (first
      | (with_reducible rfl)
      | (conv => whnf
         first
           | exact trivial
           | (with_reducible rfl)
           | exact (rfl : (0 : Int) = ((0 : Nat) : Int))
           | exact w64_nat (by (try dsimp only); first | omega | exact lt_map (by assumption) | exact ge_map (by assumption) | (have := lt_map (by assumption); omega) | (have := ge_map (by assumption); omega) | (have := lt_mkm (by assumption); omega) | (have := ge_mkm (by assumption); omega) | (have := lt_mkr (by assumption); omega) | (have := ge_mkr (by assumption); omega) | (simp only [List.length_map, List.length_replicate] at *; omega))
           | refine bcase_T (by first | with_reducible rfl | decide) ?_
           | refine bcase_F (by first | with_reducible rfl | decide) ?_
           | refine bcase_dec (fun _ => ?_) (fun _ => ?_)
           | refine bcase_not ?_
           | refine bcase_intro (fun _ => ?_) (fun _ => ?_)
           | refine ⟨(by with_reducible rfl), ?_⟩
           | refine ⟨congrArg vi ?_, ?_⟩
           | refine ⟨congrArg vb ?_, ?_⟩
           | refine ⟨rfl, ?_⟩
           | refine ⟨(by kernel_rfl : drawOK _ = true), ?_⟩
           | refine Or.inl ?_
           | refine ⟨⟨congrArg (T.int _) ?_, rfl⟩, ?_⟩
           | refine ⟨⟨congrArg T.bool ?_, rfl⟩, ?_⟩
           | refine ⟨⟨rfl, Nat.le_of_ble_eq_true rfl⟩, ?_⟩
           | refine ⟨⟨rfl, rfl⟩, ?_⟩
           | refine ⟨⟨rfl, (by decide)⟩, ?_⟩
           | refine ⟨⟨rfl, ?_⟩, ?_⟩
           | refine ⟨Or.inr rfl, ?_⟩
           | refine ⟨Or.inl rfl, ?_⟩
           | refine ⟨⟨⟨rfl, rfl, rfl⟩, ?_⟩, ?_⟩
           | refine ⟨_, _, rfl, row_get _ _ (by (try dsimp only); first | omega | exact lt_map (by assumption) | exact ge_map (by assumption) | (have := lt_map (by assumption); omega) | (have := ge_map (by assumption); omega) | (have := lt_mkm (by assumption); omega) | (have := ge_mkm (by assumption); omega) | (have := lt_mkr (by assumption); omega) | (have := ge_mkr (by assumption); omega) | (simp only [List.length_map, List.length_replicate] at *; omega)), rfl, ?_⟩
           | refine ⟨(?_ : _ = ([] : List (List T))), ?_⟩
           | fail))
    conv => whnf
    refine ⟨Nat, fun i => i ≤ s, fun i => ⟨[(0, vi s), (1, vi r), (5, .c (.ref 0)), (6, vi i)], [(0, .row true true 3 ((pts s r i).map DTransfer.e))], 1⟩, fun i => s - i, 0, Nat.zero_le _, sub_at [(0, 5)] rfl rfl rfl ?_ ?_, fun i (hi : i ≤ s) => ?_⟩
    all_goals repeat' (first
      | (with_reducible rfl)
      | (conv => whnf
         first
           | exact trivial
           | (with_reducible rfl)
           | exact (rfl : (0 : Int) = ((0 : Nat) : Int))
           | exact w64_nat (by (try dsimp only); first | omega | exact lt_map (by assumption) | exact ge_map (by assumption) | (have := lt_map (by assumption); omega) | (have := ge_map (by assumption); omega) | (have := lt_mkm (by assumption); omega) | (have := ge_mkm (by assumption); omega) | (have := lt_mkr (by assumption); omega) | (have := ge_mkr (by assumption); omega) | (simp only [List.length_map, List.length_replicate] at *; omega))
           | refine bcase_T (by first | with_reducible rfl | decide) ?_
           | refine bcase_F (by first | with_reducible rfl | decide) ?_
           | refine bcase_dec (fun _ => ?_) (fun _ => ?_)
           | refine bcase_not ?_
           | refine bcase_intro (fun _ => ?_) (fun _ => ?_)
           | refine ⟨(by with_reducible rfl), ?_⟩
           | refine ⟨congrArg vi ?_, ?_⟩
           | refine ⟨congrArg vb ?_, ?_⟩
           | refine ⟨rfl, ?_⟩
           | refine ⟨(by kernel_rfl : drawOK _ = true), ?_⟩
           | refine Or.inl ?_
           | refine ⟨⟨congrArg (T.int _) ?_, rfl⟩, ?_⟩
           | refine ⟨⟨congrArg T.bool ?_, rfl⟩, ?_⟩
           | refine ⟨⟨rfl, Nat.le_of_ble_eq_true rfl⟩, ?_⟩
           | refine ⟨⟨rfl, rfl⟩, ?_⟩
           | refine ⟨⟨rfl, (by decide)⟩, ?_⟩
           | refine ⟨⟨rfl, ?_⟩, ?_⟩
           | refine ⟨Or.inr rfl, ?_⟩
           | refine ⟨Or.inl rfl, ?_⟩
           | refine ⟨⟨⟨rfl, rfl, rfl⟩, ?_⟩, ?_⟩
           | refine ⟨_, _, rfl, row_get _ _ (by (try dsimp only); first | omega | exact lt_map (by assumption) | exact ge_map (by assumption) | (have := lt_map (by assumption); omega) | (have := ge_map (by assumption); omega) | (have := lt_mkm (by assumption); omega) | (have := ge_mkm (by assumption); omega) | (have := lt_mkr (by assumption); omega) | (have := ge_mkr (by assumption); omega) | (simp only [List.length_map, List.length_replicate] at *; omega)), rfl, ?_⟩
           | refine ⟨(?_ : _ = ([] : List (List T))), ?_⟩
           | refine ⟨_, c_l31Ok _ _ _, ?_⟩
           | fail))
    all_goals (first | (simp [pts]; done) | (rw [hw, show i = s by omega]; done) | (simp_all; done) | skip)
    conv => whnf
    refine ⟨Nat, fun j => j ≤ s, fun j => ⟨[(0, vi s), (1, vi r), (5, .c (.ref 0)), (6, vi i), (7, vi j)], [(0, .row true true 3 ((pts s r i ++ prow r i j).map DTransfer.e))], 1⟩, fun j => s - j, 0, Nat.zero_le _, sub_at [(0, 5)] rfl rfl rfl ?_ ?_, fun j (hj : j ≤ s) => ?_⟩
    all_goals repeat' (first
      | (with_reducible rfl)
      | (conv => whnf
         first
           | exact trivial
           | (with_reducible rfl)
           | exact (rfl : (0 : Int) = ((0 : Nat) : Int))
           | exact w64_nat (by (try dsimp only); first | omega | exact lt_map (by assumption) | exact ge_map (by assumption) | (have := lt_map (by assumption); omega) | (have := ge_map (by assumption); omega) | (have := lt_mkm (by assumption); omega) | (have := ge_mkm (by assumption); omega) | (have := lt_mkr (by assumption); omega) | (have := ge_mkr (by assumption); omega) | (simp only [List.length_map, List.length_replicate] at *; omega))
           | refine bcase_T (by first | with_reducible rfl | decide) ?_
           | refine bcase_F (by first | with_reducible rfl | decide) ?_
           | refine bcase_dec (fun _ => ?_) (fun _ => ?_)
           | refine bcase_not ?_
           | refine bcase_intro (fun _ => ?_) (fun _ => ?_)
           | refine ⟨(by with_reducible rfl), ?_⟩
           | refine ⟨congrArg vi ?_, ?_⟩
           | refine ⟨congrArg vb ?_, ?_⟩
           | refine ⟨rfl, ?_⟩
           | refine ⟨(by kernel_rfl : drawOK _ = true), ?_⟩
           | refine Or.inl ?_
           | refine ⟨⟨congrArg (T.int _) ?_, rfl⟩, ?_⟩
           | refine ⟨⟨congrArg T.bool ?_, rfl⟩, ?_⟩
           | refine ⟨⟨rfl, Nat.le_of_ble_eq_true rfl⟩, ?_⟩
           | refine ⟨⟨rfl, rfl⟩, ?_⟩
           | refine ⟨⟨rfl, (by decide)⟩, ?_⟩
           | refine ⟨⟨rfl, ?_⟩, ?_⟩
           | refine ⟨Or.inr rfl, ?_⟩
           | refine ⟨Or.inl rfl, ?_⟩
           | refine ⟨⟨⟨rfl, rfl, rfl⟩, ?_⟩, ?_⟩
           | refine ⟨_, _, rfl, row_get _ _ (by (try dsimp only); first | omega | exact lt_map (by assumption) | exact ge_map (by assumption) | (have := lt_map (by assumption); omega) | (have := ge_map (by assumption); omega) | (have := lt_mkm (by assumption); omega) | (have := ge_mkm (by assumption); omega) | (have := lt_mkr (by assumption); omega) | (have := ge_mkr (by assumption); omega) | (simp only [List.length_map, List.length_replicate] at *; omega)), rfl, ?_⟩
           | refine ⟨(?_ : _ = ([] : List (List T))), ?_⟩
           | refine ⟨_, c_sShareSize _, ?_⟩
           | refine ⟨true, fun _ => (by simp [isScal]), ⟨rfl, rfl⟩, ⟨(by have h1 := pts_len s r i; have h2 := prow_len r i j; have h3 : i * s ≤ 4 * 4 := Nat.mul_le_mul (by omega) (by omega); simp only [List.length_map, List.length_append, List.length_cons, List.length_nil]; show _ * 24 ≤ _; omega), (by have h1 := pts_len s r i; have h2 := prow_len r i j; have h3 : i * s ≤ 4 * 4 := Nat.mul_le_mul (by omega) (by omega); simp only [List.length_map, List.length_append, List.length_cons, List.length_nil]; omega)⟩, ?_⟩
           | refine ⟨j + 1, ⟨(by (try dsimp only); first | omega | exact lt_map (by assumption) | exact ge_map (by assumption) | (have := lt_map (by assumption); omega) | (have := ge_map (by assumption); omega) | (have := lt_mkm (by assumption); omega) | (have := ge_mkm (by assumption); omega) | (have := lt_mkr (by assumption); omega) | (have := ge_mkr (by assumption); omega) | (simp only [List.length_map, List.length_replicate] at *; omega)), (by (try dsimp only); first | omega | exact lt_map (by assumption) | exact ge_map (by assumption) | (have := lt_map (by assumption); omega) | (have := ge_map (by assumption); omega) | (have := lt_mkm (by assumption); omega) | (have := ge_mkm (by assumption); omega) | (have := lt_mkr (by assumption); omega) | (have := ge_mkr (by assumption); omega) | (simp only [List.length_map, List.length_replicate] at *; omega))⟩, sub_at [(0, 5)] rfl rfl rfl ?_ ?_⟩
           | refine ⟨i + 1, ⟨(by (try dsimp only); first | omega | exact lt_map (by assumption) | exact ge_map (by assumption) | (have := lt_map (by assumption); omega) | (have := ge_map (by assumption); omega) | (have := lt_mkm (by assumption); omega) | (have := ge_mkm (by assumption); omega) | (have := lt_mkr (by assumption); omega) | (have := ge_mkr (by assumption); omega) | (simp only [List.length_map, List.length_replicate] at *; omega)), (by (try dsimp only); first | omega | exact lt_map (by assumption) | exact ge_map (by assumption) | (have := lt_map (by assumption); omega) | (have := ge_map (by assumption); omega) | (have := lt_mkm (by assumption); omega) | (have := ge_mkm (by assumption); omega) | (have := lt_mkr (by assumption); omega) | (have := ge_mkr (by assumption); omega) | (simp only [List.length_map, List.length_replicate] at *; omega))⟩, sub_at [(0, 5)] rfl rfl rfl ?_ ?_⟩
           | fail))
    · simp [prow]
    · rw [prow_succ, if_pos (by omega), List.append_nil]
    · rw [prow_succ, if_neg (by omega), w64_ok (by omega) (by omega), w64_ok (by omega) (by omega)]; simp [DTransfer.e]
    · rw [pts_succ, show j = s by omega]
  · refine fn_of Try.func36 rfl (by kernel_rfl) rfl ?_
    all_goals repeat' (first
      | (with_reducible rfl)
      | (conv => whnf
         first
           | exact trivial
           | (with_reducible rfl)
           | exact (rfl : (0 : Int) = ((0 : Nat) : Int))
           | exact w64_nat (by (try dsimp only); first | omega | exact lt_map (by assumption) | exact ge_map (by assumption) | (have := lt_map (by assumption); omega) | (have := ge_map (by assumption); omega) | (have := lt_mkm (by assumption); omega) | (have := ge_mkm (by assumption); omega) | (have := lt_mkr (by assumption); omega) | (have := ge_mkr (by assumption); omega) | (simp only [List.length_map, List.length_replicate] at *; omega))
           | refine bcase_T (by first | with_reducible rfl | decide) ?_
           | refine bcase_F (by first | with_reducible rfl | decide) ?_
           | refine bcase_dec (fun _ => ?_) (fun _ => ?_)
           | refine bcase_not ?_
           | refine bcase_intro (fun _ => ?_) (fun _ => ?_)
           | refine ⟨(by with_reducible rfl), ?_⟩
           | refine ⟨congrArg vi ?_, ?_⟩
           | refine ⟨congrArg vb ?_, ?_⟩
           | refine ⟨rfl, ?_⟩
           | refine ⟨(by kernel_rfl : drawOK _ = true), ?_⟩
           | refine Or.inl ?_
           | refine ⟨⟨congrArg (T.int _) ?_, rfl⟩, ?_⟩
           | refine ⟨⟨congrArg T.bool ?_, rfl⟩, ?_⟩
           | refine ⟨⟨rfl, Nat.le_of_ble_eq_true rfl⟩, ?_⟩
           | refine ⟨⟨rfl, rfl⟩, ?_⟩
           | refine ⟨⟨rfl, (by decide)⟩, ?_⟩
           | refine ⟨⟨rfl, ?_⟩, ?_⟩
           | refine ⟨Or.inr rfl, ?_⟩
           | refine ⟨Or.inl rfl, ?_⟩
           | refine ⟨⟨⟨rfl, rfl, rfl⟩, ?_⟩, ?_⟩
           | refine ⟨_, _, rfl, row_get _ _ (by (try dsimp only); first | omega | exact lt_map (by assumption) | exact ge_map (by assumption) | (have := lt_map (by assumption); omega) | (have := ge_map (by assumption); omega) | (have := lt_mkm (by assumption); omega) | (have := ge_mkm (by assumption); omega) | (have := lt_mkr (by assumption); omega) | (have := ge_mkr (by assumption); omega) | (simp only [List.length_map, List.length_replicate] at *; omega)), rfl, ?_⟩
           | refine ⟨(?_ : _ = ([] : List (List T))), ?_⟩
           | fail))
    conv => whnf
    refine ⟨Nat, fun i => i = 0, fun i => ⟨[(0, vi s), (1, vi r), (5, .c (.ref 0)), (6, vi i)], [(0, .row true true 3 [])], 1⟩, fun i => i, 0, rfl, sub_at [(0, 5)] rfl rfl rfl ?_ ?_, fun i (hi : i = 0) => ?_⟩
    all_goals repeat' (first
      | (with_reducible rfl)
      | (conv => whnf
         first
           | exact trivial
           | (with_reducible rfl)
           | exact (rfl : (0 : Int) = ((0 : Nat) : Int))
           | exact w64_nat (by (try dsimp only); first | omega | exact lt_map (by assumption) | exact ge_map (by assumption) | (have := lt_map (by assumption); omega) | (have := ge_map (by assumption); omega) | (have := lt_mkm (by assumption); omega) | (have := ge_mkm (by assumption); omega) | (have := lt_mkr (by assumption); omega) | (have := ge_mkr (by assumption); omega) | (simp only [List.length_map, List.length_replicate] at *; omega))
           | refine bcase_T (by first | with_reducible rfl | decide) ?_
           | refine bcase_F (by first | with_reducible rfl | decide) ?_
           | refine bcase_dec (fun _ => ?_) (fun _ => ?_)
           | refine bcase_not ?_
           | refine bcase_intro (fun _ => ?_) (fun _ => ?_)
           | refine ⟨(by with_reducible rfl), ?_⟩
           | refine ⟨congrArg vi ?_, ?_⟩
           | refine ⟨congrArg vb ?_, ?_⟩
           | refine ⟨rfl, ?_⟩
           | refine ⟨(by kernel_rfl : drawOK _ = true), ?_⟩
           | refine Or.inl ?_
           | refine ⟨⟨congrArg (T.int _) ?_, rfl⟩, ?_⟩
           | refine ⟨⟨congrArg T.bool ?_, rfl⟩, ?_⟩
           | refine ⟨⟨rfl, Nat.le_of_ble_eq_true rfl⟩, ?_⟩
           | refine ⟨⟨rfl, rfl⟩, ?_⟩
           | refine ⟨⟨rfl, (by decide)⟩, ?_⟩
           | refine ⟨⟨rfl, ?_⟩, ?_⟩
           | refine ⟨Or.inr rfl, ?_⟩
           | refine ⟨Or.inl rfl, ?_⟩
           | refine ⟨⟨⟨rfl, rfl, rfl⟩, ?_⟩, ?_⟩
           | refine ⟨_, _, rfl, row_get _ _ (by (try dsimp only); first | omega | exact lt_map (by assumption) | exact ge_map (by assumption) | (have := lt_map (by assumption); omega) | (have := ge_map (by assumption); omega) | (have := lt_mkm (by assumption); omega) | (have := ge_mkm (by assumption); omega) | (have := lt_mkr (by assumption); omega) | (have := ge_mkr (by assumption); omega) | (simp only [List.length_map, List.length_replicate] at *; omega)), rfl, ?_⟩
           | refine ⟨(?_ : _ = ([] : List (List T))), ?_⟩
           | refine ⟨_, c_l31Ok _ _ _, ?_⟩
           | fail))
    all_goals (first | (rw [publishTransfers, if_neg hok']; rfl) | (simp_all; done))
theorem c_FnExactPublishTransfers (a0 : Int) (a1 : Int) (_k0 : okI a0) (_k1 : okI a1) : FnAt Try.prog 10 [.one (I a0), .one (I a1)] [.one (.s (.bool true))] := by
  have hr := publishTransfers_len a0 a1
  have hc := cnt_TransferS (publishTransfers a0 a1)
  refine fn_of Try.func10 rfl (by kernel_rfl) rfl ?_
  all_goals repeat' (first
    | (with_reducible rfl)
    | (conv => whnf
       first
         | refine bcase_szS (fun _ => ?_) (fun _ _ => ?_)
         | refine bcase_F (by first | rfl | (rw [decide_eq_false_iff_not]; omega) | (refine bne_eq_false_iff_eq.2 ?_; omega)) ?_
         | (refine Or.inl ?_; (conv => whnf); first | refine ⟨_, c_sPublishTransfers a0 a1, ?_⟩ | refine ⟨_, c_PublishTransfers a0 a1, ?_⟩ | refine ⟨_, c_eqTransferS _ (by first | assumption | omega | (omega)), ?_⟩ | refine ⟨_, c_heldTransferS _ _ (by first | assumption | omega | (omega)) (by first | assumption | omega | (omega)), ?_⟩)
         | (refine Or.inr ⟨rfl, Or.inr ?_⟩; (conv => whnf); first | refine ⟨rfl, _, _, c_markTransferS _ _ (by first | assumption | omega | (omega)) (by first | assumption | omega | (omega)), ?_⟩)
         | exact trivial
         | (with_reducible rfl)
         | exact (rfl : (0 : Int) = ((0 : Nat) : Int))
         | exact w64_nat (by (try dsimp only); first | omega | exact lt_map (by assumption) | exact ge_map (by assumption) | (have := lt_map (by assumption); omega) | (have := ge_map (by assumption); omega) | (have := lt_mkm (by assumption); omega) | (have := ge_mkm (by assumption); omega) | (have := lt_mkr (by assumption); omega) | (have := ge_mkr (by assumption); omega) | (simp only [List.length_map, List.length_replicate] at *; omega))
         | refine bcase_T (by first | with_reducible rfl | decide) ?_
         | refine bcase_F (by first | with_reducible rfl | decide) ?_
         | refine bcase_dec (fun _ => ?_) (fun _ => ?_)
         | refine bcase_not ?_
         | refine bcase_intro (fun _ => ?_) (fun _ => ?_)
         | refine ⟨(by with_reducible rfl), ?_⟩
         | refine ⟨congrArg vi ?_, ?_⟩
         | refine ⟨congrArg vb ?_, ?_⟩
         | refine ⟨rfl, ?_⟩
         | refine ⟨(by kernel_rfl : drawOK _ = true), ?_⟩
         | refine Or.inl ?_
         | refine ⟨⟨congrArg (T.int _) ?_, rfl⟩, ?_⟩
         | refine ⟨⟨congrArg T.bool ?_, rfl⟩, ?_⟩
         | refine ⟨⟨rfl, Nat.le_of_ble_eq_true rfl⟩, ?_⟩
         | refine ⟨⟨rfl, rfl⟩, ?_⟩
         | refine ⟨⟨rfl, (by decide)⟩, ?_⟩
         | refine ⟨⟨rfl, ?_⟩, ?_⟩
         | refine ⟨Or.inr rfl, ?_⟩
         | refine ⟨Or.inl rfl, ?_⟩
         | refine ⟨⟨⟨rfl, rfl, rfl⟩, ?_⟩, ?_⟩
         | refine ⟨_, _, rfl, row_get _ _ (by (try dsimp only); first | omega | exact lt_map (by assumption) | exact ge_map (by assumption) | (have := lt_map (by assumption); omega) | (have := ge_map (by assumption); omega) | (have := lt_mkm (by assumption); omega) | (have := ge_mkm (by assumption); omega) | (have := lt_mkr (by assumption); omega) | (have := ge_mkr (by assumption); omega) | (simp only [List.length_map, List.length_replicate] at *; omega)), rfl, ?_⟩
         | refine ⟨(?_ : _ = ([] : List (List T))), ?_⟩
         | fail))
  all_goals (first | rfl | (simp_all; done))
/-- The transfers of one client's reads. -/
def rrow (r : Int) (a : Nat) (n : Nat) : List DTransfer := (List.range n).flatMap fun k : Nat => [⟨a, 100 + k, selSize r⟩, ⟨100 + k, a, 24⟩]
def rrep (s : Nat) (r : Int) (a : Nat) (n : Nat) : List DTransfer := (List.range n).flatMap fun _ => rrow r a s
def rts (s : Nat) (r : Int) (m n : Nat) : List DTransfer := (List.range n).flatMap fun a => rrep s r a m
def readTransfers (c s r k : Int) : List DTransfer := if okSz c s r && inR k 0 8 then rts s.toNat r (2 * k.toNat) c.toNat else []
theorem rrow_succ (r : Int) (a n : Nat) : rrow r a (n + 1) = rrow r a n ++ [⟨a, 100 + (n : Int), selSize r⟩, ⟨100 + (n : Int), a, 24⟩] := by simp [rrow, List.range_succ]
theorem rrep_succ (s : Nat) (r : Int) (a n : Nat) : rrep s r a (n + 1) = rrep s r a n ++ rrow r a s := by simp [rrep, List.range_succ]
theorem rts_succ (s : Nat) (r : Int) (m n : Nat) : rts s r m (n + 1) = rts s r m n ++ rrep s r n m := by simp [rts, List.range_succ]
theorem rrow_len (r : Int) (a n : Nat) : (rrow r a n).length = 2 * n := by
  induction n with
  | zero => simp [rrow]
  | succ n ih => rw [rrow_succ, List.length_append, ih]; simp; omega
theorem rrep_len (s : Nat) (r : Int) (a n : Nat) : (rrep s r a n).length = n * (2 * s) := by
  induction n with
  | zero => simp [rrep]
  | succ n ih => rw [rrep_succ, List.length_append, ih, rrow_len, Nat.add_mul, Nat.one_mul]
theorem rts_len (s : Nat) (r : Int) (m n : Nat) : (rts s r m n).length = n * (m * (2 * s)) := by
  induction n with
  | zero => simp [rts]
  | succ n ih => rw [rts_succ, List.length_append, ih, rrep_len, Nat.add_mul, Nat.one_mul]
theorem readTransfers_len (c s r k : Int) : (readTransfers c s r k).length ≤ 1024 := by
  unfold readTransfers
  split
  · rename_i h
    rw [Bool.and_eq_true] at h
    have h1 := okSz_iff.1 h.1
    have h2 := inR_iff.1 h.2
    rw [rts_len]
    have h3 : c.toNat ≤ 8 := by omega
    have h4 : s.toNat ≤ 4 := by omega
    have h5 : k.toNat ≤ 8 := by omega
    exact Nat.le_trans (Nat.mul_le_mul h3 (Nat.mul_le_mul (Nat.mul_le_mul (Nat.le_refl 2) h5) (Nat.mul_le_mul (Nat.le_refl 2) h4))) (by decide)
  · simp
theorem c_ReadTransfers (c s r k : Int) : FnAt Try.prog 34 [.one (I c), .one (I s), .one (I r), .one (I k)] [.one (.l 3 ((readTransfers c s r k).map DTransfer.e))] := by
  refine fn_of Try.func34 rfl (by kernel_rfl) rfl ?_
  all_goals repeat' (first
    | (with_reducible rfl)
    | (conv => whnf
       first
         | exact trivial
         | (with_reducible rfl)
         | exact (rfl : (0 : Int) = ((0 : Nat) : Int))
         | exact w64_nat (by (try dsimp only); first | omega | exact lt_map (by assumption) | exact ge_map (by assumption) | (have := lt_map (by assumption); omega) | (have := ge_map (by assumption); omega) | (have := lt_mkm (by assumption); omega) | (have := ge_mkm (by assumption); omega) | (have := lt_mkr (by assumption); omega) | (have := ge_mkr (by assumption); omega) | (simp only [List.length_map, List.length_replicate] at *; omega))
         | refine bcase_T (by first | with_reducible rfl | decide) ?_
         | refine bcase_F (by first | with_reducible rfl | decide) ?_
         | refine bcase_dec (fun _ => ?_) (fun _ => ?_)
         | refine bcase_not ?_
         | refine bcase_intro (fun _ => ?_) (fun _ => ?_)
         | refine ⟨(by with_reducible rfl), ?_⟩
         | refine ⟨congrArg vi ?_, ?_⟩
         | refine ⟨congrArg vb ?_, ?_⟩
         | refine ⟨rfl, ?_⟩
         | refine ⟨(by kernel_rfl : drawOK _ = true), ?_⟩
         | refine Or.inl ?_
         | refine ⟨⟨congrArg (T.int _) ?_, rfl⟩, ?_⟩
         | refine ⟨⟨congrArg T.bool ?_, rfl⟩, ?_⟩
         | refine ⟨⟨rfl, Nat.le_of_ble_eq_true rfl⟩, ?_⟩
         | refine ⟨⟨rfl, rfl⟩, ?_⟩
         | refine ⟨⟨rfl, (by decide)⟩, ?_⟩
         | refine ⟨⟨rfl, ?_⟩, ?_⟩
         | refine ⟨Or.inr rfl, ?_⟩
         | refine ⟨Or.inl rfl, ?_⟩
         | refine ⟨⟨⟨rfl, rfl, rfl⟩, ?_⟩, ?_⟩
         | refine ⟨_, _, rfl, row_get _ _ (by (try dsimp only); first | omega | exact lt_map (by assumption) | exact ge_map (by assumption) | (have := lt_map (by assumption); omega) | (have := ge_map (by assumption); omega) | (have := lt_mkm (by assumption); omega) | (have := ge_mkm (by assumption); omega) | (have := lt_mkr (by assumption); omega) | (have := ge_mkr (by assumption); omega) | (simp only [List.length_map, List.length_replicate] at *; omega)), rfl, ?_⟩
         | refine ⟨(?_ : _ = ([] : List (List T))), ?_⟩
         | refine ⟨_, c_areSizes _ _ _, ?_⟩
         | refine ⟨_, c_InRange _ _ _, ?_⟩
         | fail))
  all_goals (first | (rw [readTransfers, if_neg (by simp_all)]; rfl) | skip)
  have hok' := (by assumption : okSz c s r = true)
  have hk' := (by assumption : inR k 0 8 = true)
  have hok := okSz_iff.1 hok'
  have hk := inR_iff.1 hk'
  obtain ⟨c, rfl⟩ := Int.eq_ofNat_of_zero_le hok.1.1
  obtain ⟨s, rfl⟩ := Int.eq_ofNat_of_zero_le (show 0 ≤ s by omega)
  obtain ⟨k, rfl⟩ := Int.eq_ofNat_of_zero_le hk.1
  have hw : readTransfers (c : Int) (s : Int) r k = rts s r (2 * k) c := by rw [readTransfers, if_pos (by rw [hok', hk']; rfl)]; rfl
  conv => whnf
  refine ⟨Nat, fun i => i ≤ c, fun i => ⟨[(1, vi s), (2, vi r), (3, vi k), (9, .c (.ref 0)), (23, vi c), (24, vi i)], [(0, .row true true 3 ((rts s r (2 * k) i).map DTransfer.e))], 1⟩, fun i => c - i, 0, Nat.zero_le _, sub_at [(0, 9)] rfl rfl rfl ?_ ?_, fun i (hi : i ≤ c) => ?_⟩
  all_goals repeat' (first
    | (with_reducible rfl)
    | (conv => whnf
       first
         | exact trivial
         | (with_reducible rfl)
         | exact (rfl : (0 : Int) = ((0 : Nat) : Int))
         | exact w64_nat (by (try dsimp only); first | omega | exact lt_map (by assumption) | exact ge_map (by assumption) | (have := lt_map (by assumption); omega) | (have := ge_map (by assumption); omega) | (have := lt_mkm (by assumption); omega) | (have := ge_mkm (by assumption); omega) | (have := lt_mkr (by assumption); omega) | (have := ge_mkr (by assumption); omega) | (simp only [List.length_map, List.length_replicate] at *; omega))
         | refine bcase_T (by first | with_reducible rfl | decide) ?_
         | refine bcase_F (by first | with_reducible rfl | decide) ?_
         | refine bcase_dec (fun _ => ?_) (fun _ => ?_)
         | refine bcase_not ?_
         | refine bcase_intro (fun _ => ?_) (fun _ => ?_)
         | refine ⟨(by with_reducible rfl), ?_⟩
         | refine ⟨congrArg vi ?_, ?_⟩
         | refine ⟨congrArg vb ?_, ?_⟩
         | refine ⟨rfl, ?_⟩
         | refine ⟨(by kernel_rfl : drawOK _ = true), ?_⟩
         | refine Or.inl ?_
         | refine ⟨⟨congrArg (T.int _) ?_, rfl⟩, ?_⟩
         | refine ⟨⟨congrArg T.bool ?_, rfl⟩, ?_⟩
         | refine ⟨⟨rfl, Nat.le_of_ble_eq_true rfl⟩, ?_⟩
         | refine ⟨⟨rfl, rfl⟩, ?_⟩
         | refine ⟨⟨rfl, (by decide)⟩, ?_⟩
         | refine ⟨⟨rfl, ?_⟩, ?_⟩
         | refine ⟨Or.inr rfl, ?_⟩
         | refine ⟨Or.inl rfl, ?_⟩
         | refine ⟨⟨⟨rfl, rfl, rfl⟩, ?_⟩, ?_⟩
         | refine ⟨_, _, rfl, row_get _ _ (by (try dsimp only); first | omega | exact lt_map (by assumption) | exact ge_map (by assumption) | (have := lt_map (by assumption); omega) | (have := ge_map (by assumption); omega) | (have := lt_mkm (by assumption); omega) | (have := ge_mkm (by assumption); omega) | (have := lt_mkr (by assumption); omega) | (have := ge_mkr (by assumption); omega) | (simp only [List.length_map, List.length_replicate] at *; omega)), rfl, ?_⟩
         | refine ⟨(?_ : _ = ([] : List (List T))), ?_⟩
         | fail))
  all_goals (first | (simp [rts]; done) | (rw [hw, show i = c by omega]; done) | skip)
  conv => whnf
  refine ⟨Nat, fun l => l ≤ 2 * k, fun l => ⟨[(1, vi s), (2, vi r), (3, vi k), (9, .c (.ref 0)), (10, vi i), (23, vi c), (24, vi i), (28, vi (2 * k : Nat)), (29, vi l)], [(0, .row true true 3 ((rts s r (2 * k) i ++ rrep s r i l).map DTransfer.e))], 1⟩, fun l => 2 * k - l, 0, Nat.zero_le _, sub_at [(0, 9)] rfl rfl rfl ?_ ?_, fun l (hl : l ≤ 2 * k) => ?_⟩
  all_goals repeat' (first
    | (with_reducible rfl)
    | (conv => whnf
       first
         | exact trivial
         | (with_reducible rfl)
         | exact (rfl : (0 : Int) = ((0 : Nat) : Int))
         | exact w64_nat (by (try dsimp only); first | omega | exact lt_map (by assumption) | exact ge_map (by assumption) | (have := lt_map (by assumption); omega) | (have := ge_map (by assumption); omega) | (have := lt_mkm (by assumption); omega) | (have := ge_mkm (by assumption); omega) | (have := lt_mkr (by assumption); omega) | (have := ge_mkr (by assumption); omega) | (simp only [List.length_map, List.length_replicate] at *; omega))
         | refine bcase_T (by first | with_reducible rfl | decide) ?_
         | refine bcase_F (by first | with_reducible rfl | decide) ?_
         | refine bcase_dec (fun _ => ?_) (fun _ => ?_)
         | refine bcase_not ?_
         | refine bcase_intro (fun _ => ?_) (fun _ => ?_)
         | refine ⟨(by with_reducible rfl), ?_⟩
         | refine ⟨congrArg vi ?_, ?_⟩
         | refine ⟨congrArg vb ?_, ?_⟩
         | refine ⟨rfl, ?_⟩
         | refine ⟨(by kernel_rfl : drawOK _ = true), ?_⟩
         | refine Or.inl ?_
         | refine ⟨⟨congrArg (T.int _) ?_, rfl⟩, ?_⟩
         | refine ⟨⟨congrArg T.bool ?_, rfl⟩, ?_⟩
         | refine ⟨⟨rfl, Nat.le_of_ble_eq_true rfl⟩, ?_⟩
         | refine ⟨⟨rfl, rfl⟩, ?_⟩
         | refine ⟨⟨rfl, (by decide)⟩, ?_⟩
         | refine ⟨⟨rfl, ?_⟩, ?_⟩
         | refine ⟨Or.inr rfl, ?_⟩
         | refine ⟨Or.inl rfl, ?_⟩
         | refine ⟨⟨⟨rfl, rfl, rfl⟩, ?_⟩, ?_⟩
         | refine ⟨_, _, rfl, row_get _ _ (by (try dsimp only); first | omega | exact lt_map (by assumption) | exact ge_map (by assumption) | (have := lt_map (by assumption); omega) | (have := ge_map (by assumption); omega) | (have := lt_mkm (by assumption); omega) | (have := ge_mkm (by assumption); omega) | (have := lt_mkr (by assumption); omega) | (have := ge_mkr (by assumption); omega) | (simp only [List.length_map, List.length_replicate] at *; omega)), rfl, ?_⟩
         | refine ⟨(?_ : _ = ([] : List (List T))), ?_⟩
         | refine ⟨i + 1, ⟨(by (try dsimp only); first | omega | exact lt_map (by assumption) | exact ge_map (by assumption) | (have := lt_map (by assumption); omega) | (have := ge_map (by assumption); omega) | (have := lt_mkm (by assumption); omega) | (have := ge_mkm (by assumption); omega) | (have := lt_mkr (by assumption); omega) | (have := ge_mkr (by assumption); omega) | (simp only [List.length_map, List.length_replicate] at *; omega)), (by (try dsimp only); first | omega | exact lt_map (by assumption) | exact ge_map (by assumption) | (have := lt_map (by assumption); omega) | (have := ge_map (by assumption); omega) | (have := lt_mkm (by assumption); omega) | (have := ge_mkm (by assumption); omega) | (have := lt_mkr (by assumption); omega) | (have := ge_mkr (by assumption); omega) | (simp only [List.length_map, List.length_replicate] at *; omega))⟩, sub_at [(0, 9)] rfl rfl rfl ?_ ?_⟩
         | fail))
  · rw [w64_ok (by omega) (by omega)]; omega
  · simp [rrep]
  rotate_left 1
  · rw [rts_succ, show l = 2 * k by omega]
  conv => whnf
  refine ⟨Nat, fun j => j ≤ s, fun j => ⟨[(1, vi s), (2, vi r), (3, vi k), (9, .c (.ref 0)), (10, vi i), (23, vi c), (24, vi i), (28, vi (2 * k : Nat)), (29, vi l), (31, vi s), (32, vi j)], [(0, .row true true 3 ((rts s r (2 * k) i ++ rrep s r i l ++ rrow r i j).map DTransfer.e))], 1⟩, fun j => s - j, 0, Nat.zero_le _, sub_at [(0, 9)] rfl rfl rfl ?_ ?_, fun j (hj : j ≤ s) => ?_⟩
  all_goals repeat' (first
    | (with_reducible rfl)
    | (conv => whnf
       first
         | exact trivial
         | (with_reducible rfl)
         | exact (rfl : (0 : Int) = ((0 : Nat) : Int))
         | exact w64_nat (by (try dsimp only); first | omega | exact lt_map (by assumption) | exact ge_map (by assumption) | (have := lt_map (by assumption); omega) | (have := ge_map (by assumption); omega) | (have := lt_mkm (by assumption); omega) | (have := ge_mkm (by assumption); omega) | (have := lt_mkr (by assumption); omega) | (have := ge_mkr (by assumption); omega) | (simp only [List.length_map, List.length_replicate] at *; omega))
         | refine bcase_T (by first | with_reducible rfl | decide) ?_
         | refine bcase_F (by first | with_reducible rfl | decide) ?_
         | refine bcase_dec (fun _ => ?_) (fun _ => ?_)
         | refine bcase_not ?_
         | refine bcase_intro (fun _ => ?_) (fun _ => ?_)
         | refine ⟨(by with_reducible rfl), ?_⟩
         | refine ⟨congrArg vi ?_, ?_⟩
         | refine ⟨congrArg vb ?_, ?_⟩
         | refine ⟨rfl, ?_⟩
         | refine ⟨(by kernel_rfl : drawOK _ = true), ?_⟩
         | refine Or.inl ?_
         | refine ⟨⟨congrArg (T.int _) ?_, rfl⟩, ?_⟩
         | refine ⟨⟨congrArg T.bool ?_, rfl⟩, ?_⟩
         | refine ⟨⟨rfl, Nat.le_of_ble_eq_true rfl⟩, ?_⟩
         | refine ⟨⟨rfl, rfl⟩, ?_⟩
         | refine ⟨⟨rfl, (by decide)⟩, ?_⟩
         | refine ⟨⟨rfl, ?_⟩, ?_⟩
         | refine ⟨Or.inr rfl, ?_⟩
         | refine ⟨Or.inl rfl, ?_⟩
         | refine ⟨⟨⟨rfl, rfl, rfl⟩, ?_⟩, ?_⟩
         | refine ⟨_, _, rfl, row_get _ _ (by (try dsimp only); first | omega | exact lt_map (by assumption) | exact ge_map (by assumption) | (have := lt_map (by assumption); omega) | (have := ge_map (by assumption); omega) | (have := lt_mkm (by assumption); omega) | (have := ge_mkm (by assumption); omega) | (have := lt_mkr (by assumption); omega) | (have := ge_mkr (by assumption); omega) | (simp only [List.length_map, List.length_replicate] at *; omega)), rfl, ?_⟩
         | refine ⟨(?_ : _ = ([] : List (List T))), ?_⟩
         | refine ⟨_, c_SelectionSize _, ?_⟩
         | refine ⟨true, fun _ => (by simp [isScal]), ⟨rfl, rfl⟩, ⟨(by have h1 := rts_len s r (2 * k) i; have h2 := rrep_len s r i l; have h3 := rrow_len r i j; have h4 : i * (2 * k * (2 * s)) ≤ 8 * (2 * 8 * (2 * 4)) := Nat.mul_le_mul (by omega) (Nat.mul_le_mul (Nat.mul_le_mul (Nat.le_refl 2) (by omega)) (Nat.mul_le_mul (Nat.le_refl 2) (by omega))); have h5 : l * (2 * s) ≤ (2 * 8) * (2 * 4) := Nat.mul_le_mul (by omega) (Nat.mul_le_mul (Nat.le_refl 2) (by omega)); simp only [List.length_map, List.length_append, List.length_cons, List.length_nil]; show _ * 24 ≤ _; omega), (by have h1 := rts_len s r (2 * k) i; have h2 := rrep_len s r i l; have h3 := rrow_len r i j; have h4 : i * (2 * k * (2 * s)) ≤ 8 * (2 * 8 * (2 * 4)) := Nat.mul_le_mul (by omega) (Nat.mul_le_mul (Nat.mul_le_mul (Nat.le_refl 2) (by omega)) (Nat.mul_le_mul (Nat.le_refl 2) (by omega))); have h5 : l * (2 * s) ≤ (2 * 8) * (2 * 4) := Nat.mul_le_mul (by omega) (Nat.mul_le_mul (Nat.le_refl 2) (by omega)); simp only [List.length_map, List.length_append, List.length_cons, List.length_nil]; omega)⟩, ?_⟩
         | refine ⟨j + 1, ⟨(by (try dsimp only); first | omega | exact lt_map (by assumption) | exact ge_map (by assumption) | (have := lt_map (by assumption); omega) | (have := ge_map (by assumption); omega) | (have := lt_mkm (by assumption); omega) | (have := ge_mkm (by assumption); omega) | (have := lt_mkr (by assumption); omega) | (have := ge_mkr (by assumption); omega) | (simp only [List.length_map, List.length_replicate] at *; omega)), (by (try dsimp only); first | omega | exact lt_map (by assumption) | exact ge_map (by assumption) | (have := lt_map (by assumption); omega) | (have := ge_map (by assumption); omega) | (have := lt_mkm (by assumption); omega) | (have := ge_mkm (by assumption); omega) | (have := lt_mkr (by assumption); omega) | (have := ge_mkr (by assumption); omega) | (simp only [List.length_map, List.length_replicate] at *; omega))⟩, sub_at [(0, 9)] rfl rfl rfl ?_ ?_⟩
         | refine ⟨l + 1, ⟨(by (try dsimp only); first | omega | exact lt_map (by assumption) | exact ge_map (by assumption) | (have := lt_map (by assumption); omega) | (have := ge_map (by assumption); omega) | (have := lt_mkm (by assumption); omega) | (have := ge_mkm (by assumption); omega) | (have := lt_mkr (by assumption); omega) | (have := ge_mkr (by assumption); omega) | (simp only [List.length_map, List.length_replicate] at *; omega)), (by (try dsimp only); first | omega | exact lt_map (by assumption) | exact ge_map (by assumption) | (have := lt_map (by assumption); omega) | (have := ge_map (by assumption); omega) | (have := lt_mkm (by assumption); omega) | (have := ge_mkm (by assumption); omega) | (have := lt_mkr (by assumption); omega) | (have := ge_mkr (by assumption); omega) | (simp only [List.length_map, List.length_replicate] at *; omega))⟩, sub_at [(0, 9)] rfl rfl rfl ?_ ?_⟩
         | fail))
  · simp [rrow]
  · rw [rrow_succ, w64_ok (n := 100 + (j : Int)) (by omega) (by omega)]; simp [DTransfer.e]
  · rw [rrep_succ, show j = s by omega, List.append_assoc]
theorem c_sReadTransfers (c s r k : Int) : FnAt Try.prog 37 [.one (I c), .one (I s), .one (I r), .one (I k)] [.one (.l 3 ((readTransfers c s r k).map DTransfer.e))] := by
  refine fn_of Try.func37 rfl (by kernel_rfl) rfl ?_
  all_goals repeat' (first
    | (with_reducible rfl)
    | (conv => whnf
       first
         | exact trivial
         | (with_reducible rfl)
         | exact (rfl : (0 : Int) = ((0 : Nat) : Int))
         | exact w64_nat (by (try dsimp only); first | omega | exact lt_map (by assumption) | exact ge_map (by assumption) | (have := lt_map (by assumption); omega) | (have := ge_map (by assumption); omega) | (have := lt_mkm (by assumption); omega) | (have := ge_mkm (by assumption); omega) | (have := lt_mkr (by assumption); omega) | (have := ge_mkr (by assumption); omega) | (simp only [List.length_map, List.length_replicate] at *; omega))
         | refine bcase_T (by first | with_reducible rfl | decide) ?_
         | refine bcase_F (by first | with_reducible rfl | decide) ?_
         | refine bcase_dec (fun _ => ?_) (fun _ => ?_)
         | refine bcase_not ?_
         | refine bcase_intro (fun _ => ?_) (fun _ => ?_)
         | refine ⟨(by with_reducible rfl), ?_⟩
         | refine ⟨congrArg vi ?_, ?_⟩
         | refine ⟨congrArg vb ?_, ?_⟩
         | refine ⟨rfl, ?_⟩
         | refine ⟨(by kernel_rfl : drawOK _ = true), ?_⟩
         | refine Or.inl ?_
         | refine ⟨⟨congrArg (T.int _) ?_, rfl⟩, ?_⟩
         | refine ⟨⟨congrArg T.bool ?_, rfl⟩, ?_⟩
         | refine ⟨⟨rfl, Nat.le_of_ble_eq_true rfl⟩, ?_⟩
         | refine ⟨⟨rfl, rfl⟩, ?_⟩
         | refine ⟨⟨rfl, (by decide)⟩, ?_⟩
         | refine ⟨⟨rfl, ?_⟩, ?_⟩
         | refine ⟨Or.inr rfl, ?_⟩
         | refine ⟨Or.inl rfl, ?_⟩
         | refine ⟨⟨⟨rfl, rfl, rfl⟩, ?_⟩, ?_⟩
         | refine ⟨_, _, rfl, row_get _ _ (by (try dsimp only); first | omega | exact lt_map (by assumption) | exact ge_map (by assumption) | (have := lt_map (by assumption); omega) | (have := ge_map (by assumption); omega) | (have := lt_mkm (by assumption); omega) | (have := ge_mkm (by assumption); omega) | (have := lt_mkr (by assumption); omega) | (have := ge_mkr (by assumption); omega) | (simp only [List.length_map, List.length_replicate] at *; omega)), rfl, ?_⟩
         | refine ⟨(?_ : _ = ([] : List (List T))), ?_⟩
         | refine ⟨_, c_l31Ok _ _ _, ?_⟩
         | refine ⟨_, c_l1In _ _ _, ?_⟩
         | fail))
  all_goals (first | (rw [readTransfers, if_neg (by simp_all)]; rfl) | skip)
  have hok' := (by assumption : okSz c s r = true)
  have hk' := (by assumption : inR k 0 8 = true)
  have hok := okSz_iff.1 hok'
  have hk := inR_iff.1 hk'
  obtain ⟨c, rfl⟩ := Int.eq_ofNat_of_zero_le hok.1.1
  obtain ⟨s, rfl⟩ := Int.eq_ofNat_of_zero_le (show 0 ≤ s by omega)
  obtain ⟨k, rfl⟩ := Int.eq_ofNat_of_zero_le hk.1
  have hw : readTransfers (c : Int) (s : Int) r k = rts s r (2 * k) c := by rw [readTransfers, if_pos (by rw [hok', hk']; rfl)]; rfl
  have hm : IntKind.i64.wrap (2 * (k : Int)) = 2 * k := w64_ok (by omega) (by omega)
  conv => whnf
  refine ⟨Nat, fun i => i ≤ c, fun i => ⟨[(0, vi c), (1, vi s), (2, vi r), (3, vi k), (9, .c (.ref 0)), (10, vi i)], [(0, .row true true 3 ((rts s r (2 * k) i).map DTransfer.e))], 1⟩, fun i => c - i, 0, Nat.zero_le _, sub_at [(0, 9)] rfl rfl rfl ?_ ?_, fun i (hi : i ≤ c) => ?_⟩
  all_goals repeat' (first
    | (with_reducible rfl)
    | (conv => whnf
       first
         | exact trivial
         | (with_reducible rfl)
         | exact (rfl : (0 : Int) = ((0 : Nat) : Int))
         | exact w64_nat (by (try dsimp only); first | omega | exact lt_map (by assumption) | exact ge_map (by assumption) | (have := lt_map (by assumption); omega) | (have := ge_map (by assumption); omega) | (have := lt_mkm (by assumption); omega) | (have := ge_mkm (by assumption); omega) | (have := lt_mkr (by assumption); omega) | (have := ge_mkr (by assumption); omega) | (simp only [List.length_map, List.length_replicate] at *; omega))
         | refine bcase_T (by first | with_reducible rfl | decide) ?_
         | refine bcase_F (by first | with_reducible rfl | decide) ?_
         | refine bcase_dec (fun _ => ?_) (fun _ => ?_)
         | refine bcase_not ?_
         | refine bcase_intro (fun _ => ?_) (fun _ => ?_)
         | refine ⟨(by with_reducible rfl), ?_⟩
         | refine ⟨congrArg vi ?_, ?_⟩
         | refine ⟨congrArg vb ?_, ?_⟩
         | refine ⟨rfl, ?_⟩
         | refine ⟨(by kernel_rfl : drawOK _ = true), ?_⟩
         | refine Or.inl ?_
         | refine ⟨⟨congrArg (T.int _) ?_, rfl⟩, ?_⟩
         | refine ⟨⟨congrArg T.bool ?_, rfl⟩, ?_⟩
         | refine ⟨⟨rfl, Nat.le_of_ble_eq_true rfl⟩, ?_⟩
         | refine ⟨⟨rfl, rfl⟩, ?_⟩
         | refine ⟨⟨rfl, (by decide)⟩, ?_⟩
         | refine ⟨⟨rfl, ?_⟩, ?_⟩
         | refine ⟨Or.inr rfl, ?_⟩
         | refine ⟨Or.inl rfl, ?_⟩
         | refine ⟨⟨⟨rfl, rfl, rfl⟩, ?_⟩, ?_⟩
         | refine ⟨_, _, rfl, row_get _ _ (by (try dsimp only); first | omega | exact lt_map (by assumption) | exact ge_map (by assumption) | (have := lt_map (by assumption); omega) | (have := ge_map (by assumption); omega) | (have := lt_mkm (by assumption); omega) | (have := ge_mkm (by assumption); omega) | (have := lt_mkr (by assumption); omega) | (have := ge_mkr (by assumption); omega) | (simp only [List.length_map, List.length_replicate] at *; omega)), rfl, ?_⟩
         | refine ⟨(?_ : _ = ([] : List (List T))), ?_⟩
         | fail))
  all_goals (first | (simp [rts]; done) | (rw [hw, show i = c by omega]; done) | skip)
  conv => whnf
  refine ⟨Nat, fun l => l ≤ 2 * k, fun l => ⟨[(0, vi c), (1, vi s), (2, vi r), (3, vi k), (9, .c (.ref 0)), (10, vi i), (11, vi l)], [(0, .row true true 3 ((rts s r (2 * k) i ++ rrep s r i l).map DTransfer.e))], 1⟩, fun l => 2 * k - l, 0, Nat.zero_le _, sub_at [(0, 9)] rfl rfl rfl ?_ ?_, fun l (hl : l ≤ 2 * k) => ?_⟩
  all_goals repeat' (first
    | (with_reducible rfl)
    | (conv => whnf
       first
         | exact trivial
         | (with_reducible rfl)
         | exact (rfl : (0 : Int) = ((0 : Nat) : Int))
         | exact w64_nat (by (try dsimp only); first | omega | exact lt_map (by assumption) | exact ge_map (by assumption) | (have := lt_map (by assumption); omega) | (have := ge_map (by assumption); omega) | (have := lt_mkm (by assumption); omega) | (have := ge_mkm (by assumption); omega) | (have := lt_mkr (by assumption); omega) | (have := ge_mkr (by assumption); omega) | (simp only [List.length_map, List.length_replicate] at *; omega))
         | refine bcase_T (by first | with_reducible rfl | decide) ?_
         | refine bcase_F (by first | with_reducible rfl | decide) ?_
         | refine bcase_dec (fun _ => ?_) (fun _ => ?_)
         | refine bcase_not ?_
         | refine bcase_intro (fun _ => ?_) (fun _ => ?_)
         | refine ⟨(by with_reducible rfl), ?_⟩
         | refine ⟨congrArg vi ?_, ?_⟩
         | refine ⟨congrArg vb ?_, ?_⟩
         | refine ⟨rfl, ?_⟩
         | refine ⟨(by kernel_rfl : drawOK _ = true), ?_⟩
         | refine Or.inl ?_
         | refine ⟨⟨congrArg (T.int _) ?_, rfl⟩, ?_⟩
         | refine ⟨⟨congrArg T.bool ?_, rfl⟩, ?_⟩
         | refine ⟨⟨rfl, Nat.le_of_ble_eq_true rfl⟩, ?_⟩
         | refine ⟨⟨rfl, rfl⟩, ?_⟩
         | refine ⟨⟨rfl, (by decide)⟩, ?_⟩
         | refine ⟨⟨rfl, ?_⟩, ?_⟩
         | refine ⟨Or.inr rfl, ?_⟩
         | refine ⟨Or.inl rfl, ?_⟩
         | refine ⟨⟨⟨rfl, rfl, rfl⟩, ?_⟩, ?_⟩
         | refine ⟨_, _, rfl, row_get _ _ (by (try dsimp only); first | omega | exact lt_map (by assumption) | exact ge_map (by assumption) | (have := lt_map (by assumption); omega) | (have := ge_map (by assumption); omega) | (have := lt_mkm (by assumption); omega) | (have := ge_mkm (by assumption); omega) | (have := lt_mkr (by assumption); omega) | (have := ge_mkr (by assumption); omega) | (simp only [List.length_map, List.length_replicate] at *; omega)), rfl, ?_⟩
         | refine ⟨(?_ : _ = ([] : List (List T))), ?_⟩
         | refine ⟨i + 1, ⟨(by (try dsimp only); first | omega | exact lt_map (by assumption) | exact ge_map (by assumption) | (have := lt_map (by assumption); omega) | (have := ge_map (by assumption); omega) | (have := lt_mkm (by assumption); omega) | (have := ge_mkm (by assumption); omega) | (have := lt_mkr (by assumption); omega) | (have := ge_mkr (by assumption); omega) | (simp only [List.length_map, List.length_replicate] at *; omega)), (by (try dsimp only); first | omega | exact lt_map (by assumption) | exact ge_map (by assumption) | (have := lt_map (by assumption); omega) | (have := ge_map (by assumption); omega) | (have := lt_mkm (by assumption); omega) | (have := ge_mkm (by assumption); omega) | (have := lt_mkr (by assumption); omega) | (have := ge_mkr (by assumption); omega) | (simp only [List.length_map, List.length_replicate] at *; omega))⟩, sub_at [(0, 9)] rfl rfl rfl ?_ ?_⟩
         | (refine bcase_dec (fun _ => ?_) (fun _ => ?_))
         | fail))
  · simp [rrep]
  rotate_left 1
  · rw [rts_succ, show l = 2 * k by omega]
  have hlk : l < 2 * k := by omega
  conv => whnf
  refine ⟨Nat, fun j => j ≤ s, fun j => ⟨[(0, vi c), (1, vi s), (2, vi r), (3, vi k), (9, .c (.ref 0)), (10, vi i), (11, vi l), (12, vi j)], [(0, .row true true 3 ((rts s r (2 * k) i ++ rrep s r i l ++ rrow r i j).map DTransfer.e))], 1⟩, fun j => s - j, 0, Nat.zero_le _, sub_at [(0, 9)] rfl rfl rfl ?_ ?_, fun j (hj : j ≤ s) => ?_⟩
  all_goals repeat' (first
    | (with_reducible rfl)
    | (conv => whnf
       first
         | exact trivial
         | (with_reducible rfl)
         | exact (rfl : (0 : Int) = ((0 : Nat) : Int))
         | exact w64_nat (by (try dsimp only); first | omega | exact lt_map (by assumption) | exact ge_map (by assumption) | (have := lt_map (by assumption); omega) | (have := ge_map (by assumption); omega) | (have := lt_mkm (by assumption); omega) | (have := ge_mkm (by assumption); omega) | (have := lt_mkr (by assumption); omega) | (have := ge_mkr (by assumption); omega) | (simp only [List.length_map, List.length_replicate] at *; omega))
         | refine bcase_T (by first | with_reducible rfl | decide) ?_
         | refine bcase_F (by first | with_reducible rfl | decide) ?_
         | refine bcase_dec (fun _ => ?_) (fun _ => ?_)
         | refine bcase_not ?_
         | refine bcase_intro (fun _ => ?_) (fun _ => ?_)
         | refine ⟨(by with_reducible rfl), ?_⟩
         | refine ⟨congrArg vi ?_, ?_⟩
         | refine ⟨congrArg vb ?_, ?_⟩
         | refine ⟨rfl, ?_⟩
         | refine ⟨(by kernel_rfl : drawOK _ = true), ?_⟩
         | refine Or.inl ?_
         | refine ⟨⟨congrArg (T.int _) ?_, rfl⟩, ?_⟩
         | refine ⟨⟨congrArg T.bool ?_, rfl⟩, ?_⟩
         | refine ⟨⟨rfl, Nat.le_of_ble_eq_true rfl⟩, ?_⟩
         | refine ⟨⟨rfl, rfl⟩, ?_⟩
         | refine ⟨⟨rfl, (by decide)⟩, ?_⟩
         | refine ⟨⟨rfl, ?_⟩, ?_⟩
         | refine ⟨Or.inr rfl, ?_⟩
         | refine ⟨Or.inl rfl, ?_⟩
         | refine ⟨⟨⟨rfl, rfl, rfl⟩, ?_⟩, ?_⟩
         | refine ⟨_, _, rfl, row_get _ _ (by (try dsimp only); first | omega | exact lt_map (by assumption) | exact ge_map (by assumption) | (have := lt_map (by assumption); omega) | (have := ge_map (by assumption); omega) | (have := lt_mkm (by assumption); omega) | (have := ge_mkm (by assumption); omega) | (have := lt_mkr (by assumption); omega) | (have := ge_mkr (by assumption); omega) | (simp only [List.length_map, List.length_replicate] at *; omega)), rfl, ?_⟩
         | refine ⟨(?_ : _ = ([] : List (List T))), ?_⟩
         | refine ⟨_, c_sSelectionSize _, ?_⟩
         | refine ⟨true, fun _ => (by simp [isScal]), ⟨rfl, rfl⟩, ⟨(by have h1 := rts_len s r (2 * k) i; have h2 := rrep_len s r i l; have h3 := rrow_len r i j; have h4 : i * (2 * k * (2 * s)) ≤ 8 * (2 * 8 * (2 * 4)) := Nat.mul_le_mul (by omega) (Nat.mul_le_mul (Nat.mul_le_mul (Nat.le_refl 2) (by omega)) (Nat.mul_le_mul (Nat.le_refl 2) (by omega))); have h5 : l * (2 * s) ≤ (2 * 8) * (2 * 4) := Nat.mul_le_mul (by omega) (Nat.mul_le_mul (Nat.le_refl 2) (by omega)); simp only [List.length_map, List.length_append, List.length_cons, List.length_nil]; show _ * 24 ≤ _; omega), (by have h1 := rts_len s r (2 * k) i; have h2 := rrep_len s r i l; have h3 := rrow_len r i j; have h4 : i * (2 * k * (2 * s)) ≤ 8 * (2 * 8 * (2 * 4)) := Nat.mul_le_mul (by omega) (Nat.mul_le_mul (Nat.mul_le_mul (Nat.le_refl 2) (by omega)) (Nat.mul_le_mul (Nat.le_refl 2) (by omega))); have h5 : l * (2 * s) ≤ (2 * 8) * (2 * 4) := Nat.mul_le_mul (by omega) (Nat.mul_le_mul (Nat.le_refl 2) (by omega)); simp only [List.length_map, List.length_append, List.length_cons, List.length_nil]; omega)⟩, ?_⟩
         | refine ⟨j + 1, ⟨(by (try dsimp only); first | omega | exact lt_map (by assumption) | exact ge_map (by assumption) | (have := lt_map (by assumption); omega) | (have := ge_map (by assumption); omega) | (have := lt_mkm (by assumption); omega) | (have := ge_mkm (by assumption); omega) | (have := lt_mkr (by assumption); omega) | (have := ge_mkr (by assumption); omega) | (simp only [List.length_map, List.length_replicate] at *; omega)), (by (try dsimp only); first | omega | exact lt_map (by assumption) | exact ge_map (by assumption) | (have := lt_map (by assumption); omega) | (have := ge_map (by assumption); omega) | (have := lt_mkm (by assumption); omega) | (have := ge_mkm (by assumption); omega) | (have := lt_mkr (by assumption); omega) | (have := ge_mkr (by assumption); omega) | (simp only [List.length_map, List.length_replicate] at *; omega))⟩, sub_at [(0, 9)] rfl rfl rfl ?_ ?_⟩
         | refine ⟨l + 1, ⟨(by (try dsimp only); first | omega | exact lt_map (by assumption) | exact ge_map (by assumption) | (have := lt_map (by assumption); omega) | (have := ge_map (by assumption); omega) | (have := lt_mkm (by assumption); omega) | (have := ge_mkm (by assumption); omega) | (have := lt_mkr (by assumption); omega) | (have := ge_mkr (by assumption); omega) | (simp only [List.length_map, List.length_replicate] at *; omega)), (by (try dsimp only); first | omega | exact lt_map (by assumption) | exact ge_map (by assumption) | (have := lt_map (by assumption); omega) | (have := ge_map (by assumption); omega) | (have := lt_mkm (by assumption); omega) | (have := ge_mkm (by assumption); omega) | (have := lt_mkr (by assumption); omega) | (have := ge_mkr (by assumption); omega) | (simp only [List.length_map, List.length_replicate] at *; omega))⟩, sub_at [(0, 9)] rfl rfl rfl ?_ ?_⟩
         | fail))
  · simp [rrow]
  · rw [rrow_succ, w64_ok (n := 100 + (j : Int)) (by omega) (by omega)]; simp [DTransfer.e]
  · rw [rrep_succ, show j = s by omega, List.append_assoc]
theorem c_FnExactReadTransfers (a0 : Int) (a1 : Int) (a2 : Int) (a3 : Int) (_k0 : okI a0) (_k1 : okI a1) (_k2 : okI a2) (_k3 : okI a3) : FnAt Try.prog 11 [.one (I a0), .one (I a1), .one (I a2), .one (I a3)] [.one (.s (.bool true))] := by
  have hr := readTransfers_len a0 a1 a2 a3
  have hc := cnt_TransferS (readTransfers a0 a1 a2 a3)
  refine fn_of Try.func11 rfl (by kernel_rfl) rfl ?_
  all_goals repeat' (first
    | (with_reducible rfl)
    | (conv => whnf
       first
         | refine bcase_szS (fun _ => ?_) (fun _ _ => ?_)
         | refine bcase_F (by first | rfl | (rw [decide_eq_false_iff_not]; omega) | (refine bne_eq_false_iff_eq.2 ?_; omega)) ?_
         | (refine Or.inl ?_; (conv => whnf); first | refine ⟨_, c_sReadTransfers a0 a1 a2 a3, ?_⟩ | refine ⟨_, c_ReadTransfers a0 a1 a2 a3, ?_⟩ | refine ⟨_, c_eqTransferS _ (by first | assumption | omega | (omega)), ?_⟩ | refine ⟨_, c_heldTransferS _ _ (by first | assumption | omega | (omega)) (by first | assumption | omega | (omega)), ?_⟩)
         | (refine Or.inr ⟨rfl, Or.inr ?_⟩; (conv => whnf); first | refine ⟨rfl, _, _, c_markTransferS _ _ (by first | assumption | omega | (omega)) (by first | assumption | omega | (omega)), ?_⟩)
         | exact trivial
         | (with_reducible rfl)
         | exact (rfl : (0 : Int) = ((0 : Nat) : Int))
         | exact w64_nat (by (try dsimp only); first | omega | exact lt_map (by assumption) | exact ge_map (by assumption) | (have := lt_map (by assumption); omega) | (have := ge_map (by assumption); omega) | (have := lt_mkm (by assumption); omega) | (have := ge_mkm (by assumption); omega) | (have := lt_mkr (by assumption); omega) | (have := ge_mkr (by assumption); omega) | (simp only [List.length_map, List.length_replicate] at *; omega))
         | refine bcase_T (by first | with_reducible rfl | decide) ?_
         | refine bcase_F (by first | with_reducible rfl | decide) ?_
         | refine bcase_dec (fun _ => ?_) (fun _ => ?_)
         | refine bcase_not ?_
         | refine bcase_intro (fun _ => ?_) (fun _ => ?_)
         | refine ⟨(by with_reducible rfl), ?_⟩
         | refine ⟨congrArg vi ?_, ?_⟩
         | refine ⟨congrArg vb ?_, ?_⟩
         | refine ⟨rfl, ?_⟩
         | refine ⟨(by kernel_rfl : drawOK _ = true), ?_⟩
         | refine Or.inl ?_
         | refine ⟨⟨congrArg (T.int _) ?_, rfl⟩, ?_⟩
         | refine ⟨⟨congrArg T.bool ?_, rfl⟩, ?_⟩
         | refine ⟨⟨rfl, Nat.le_of_ble_eq_true rfl⟩, ?_⟩
         | refine ⟨⟨rfl, rfl⟩, ?_⟩
         | refine ⟨⟨rfl, (by decide)⟩, ?_⟩
         | refine ⟨⟨rfl, ?_⟩, ?_⟩
         | refine ⟨Or.inr rfl, ?_⟩
         | refine ⟨Or.inl rfl, ?_⟩
         | refine ⟨⟨⟨rfl, rfl, rfl⟩, ?_⟩, ?_⟩
         | refine ⟨_, _, rfl, row_get _ _ (by (try dsimp only); first | omega | exact lt_map (by assumption) | exact ge_map (by assumption) | (have := lt_map (by assumption); omega) | (have := ge_map (by assumption); omega) | (have := lt_mkm (by assumption); omega) | (have := ge_mkm (by assumption); omega) | (have := lt_mkr (by assumption); omega) | (have := ge_mkr (by assumption); omega) | (simp only [List.length_map, List.length_replicate] at *; omega)), rfl, ?_⟩
         | refine ⟨(?_ : _ = ([] : List (List T))), ?_⟩
         | fail))
  all_goals (first | rfl | (simp_all; done))
end Go.Proofs.Ytkjheelgilffiaa
