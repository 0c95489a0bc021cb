/-
  Contracts: lists of transfers.
  Conditions: none.
-/
import Derived.Test.YtkjheelgilffiaaVmY
import Derived.Test.YtkjheelgilffiaaFnA
namespace Go.Proofs.Ytkjheelgilffiaa
open Go.Vm Go.RowKit

def szS (n : Nat) (k : Int) : Int := if k - n < 0 then -1 else k - n
theorem c_szTransferS (xs : List DTransfer) (k : Int) (hx : xs.length ≤ maxLen) (hk : 0 ≤ k ∧ k ≤ 1000000000000) : FnAt Try.prog 19 [.one (L DTransfer.e xs), .one (I k)] [.one (.s (I (szS xs.length k)))] := by
  have hw := w64_ok (n := k - (xs.length : Int)) (by simp only [maxLen] at hx; omega) (by simp only [maxLen] at hx; omega)
  refine fn_of Try.func19 rfl (by kernel_rfl) rfl ?_
  all_goals repeat' (first
    | (with_reducible rfl)
    | (conv => whnf
       first
         | exact trivial
         | (with_reducible rfl)
         | exact (rfl : (0 : Int) = ((0 : Nat) : Int))
         | exact w64_nat (by (try dsimp only); first | omega | exact lt_map (by assumption) | exact ge_map (by assumption) | (have := lt_map (by assumption); omega) | (have := ge_map (by assumption); omega) | (simp only [List.length_map, List.length_replicate] at *; omega))
         | refine bcase_T (by first | with_reducible rfl | decide) ?_
         | refine bcase_F (by first | with_reducible rfl | decide) ?_
         | refine bcase_dec (fun _ => ?_) (fun _ => ?_)
         | refine bcase_not ?_
         | refine bcase_intro (fun _ => ?_) (fun _ => ?_)
         | refine ⟨(by with_reducible rfl), ?_⟩
         | refine ⟨congrArg vi ?_, ?_⟩
         | refine ⟨congrArg vb ?_, ?_⟩
         | refine ⟨rfl, ?_⟩
         | refine ⟨(by kernel_rfl : drawOK _ = true), ?_⟩
         | refine Or.inl ?_
         | refine ⟨⟨congrArg (T.int _) ?_, rfl⟩, ?_⟩
         | refine ⟨⟨congrArg T.bool ?_, rfl⟩, ?_⟩
         | refine ⟨⟨rfl, Nat.le_of_ble_eq_true rfl⟩, ?_⟩
         | refine ⟨⟨rfl, ?_⟩, ?_⟩
         | refine ⟨⟨⟨rfl, rfl, rfl⟩, ?_⟩, ?_⟩
         | refine ⟨_, _, rfl, row_get _ _ (by (try dsimp only); first | omega | exact lt_map (by assumption) | exact ge_map (by assumption) | (have := lt_map (by assumption); omega) | (have := ge_map (by assumption); omega) | (simp only [List.length_map, List.length_replicate] at *; omega)), rfl, ?_⟩
         | fail))
  all_goals simp only [List.length_map, hw, szS] at *
  · rw [if_pos (by omega)]
  · rw [if_neg (by omega)]
theorem c_toTransfer (x : DTransfer) : FnAt Try.prog 55 [.agg x.e] [.agg [.s (I x.From), .s (I x.To), .s (I x.Bytes)]] := by
  refine fn_of Try.func55 rfl (by kernel_rfl) rfl ?_
  all_goals repeat' (first
    | (with_reducible rfl)
    | (conv => whnf
       first
         | exact trivial
         | (with_reducible rfl)
         | exact (rfl : (0 : Int) = ((0 : Nat) : Int))
         | exact w64_nat (by (try dsimp only); first | omega | exact lt_map (by assumption) | exact ge_map (by assumption) | (have := lt_map (by assumption); omega) | (have := ge_map (by assumption); omega) | (simp only [List.length_map, List.length_replicate] at *; omega))
         | refine bcase_T (by first | with_reducible rfl | decide) ?_
         | refine bcase_F (by first | with_reducible rfl | decide) ?_
         | refine bcase_dec (fun _ => ?_) (fun _ => ?_)
         | refine bcase_not ?_
         | refine bcase_intro (fun _ => ?_) (fun _ => ?_)
         | refine ⟨(by with_reducible rfl), ?_⟩
         | refine ⟨congrArg vi ?_, ?_⟩
         | refine ⟨congrArg vb ?_, ?_⟩
         | refine ⟨rfl, ?_⟩
         | refine ⟨(by kernel_rfl : drawOK _ = true), ?_⟩
         | refine Or.inl ?_
         | refine ⟨⟨congrArg (T.int _) ?_, rfl⟩, ?_⟩
         | refine ⟨⟨congrArg T.bool ?_, rfl⟩, ?_⟩
         | refine ⟨⟨rfl, Nat.le_of_ble_eq_true rfl⟩, ?_⟩
         | refine ⟨⟨rfl, ?_⟩, ?_⟩
         | refine ⟨⟨⟨rfl, rfl, rfl⟩, ?_⟩, ?_⟩
         | refine ⟨_, _, rfl, row_get _ _ (by (try dsimp only); first | omega | exact lt_map (by assumption) | exact ge_map (by assumption) | (have := lt_map (by assumption); omega) | (have := ge_map (by assumption); omega) | (simp only [List.length_map, List.length_replicate] at *; omega)), rfl, ?_⟩
         | refine ⟨⟨rfl, Nat.le_of_ble_eq_true rfl⟩, ?_⟩
         | fail))
  all_goals rfl
theorem c_toTransferS (xs : List DTransfer) (hx : xs.length ≤ 1048576) : FnAt Try.prog 21 [.one (L DTransfer.e xs)] [.one (.l 3 (xs.map DTransfer.e))] := by
  refine fn_of Try.func21 rfl (by kernel_rfl) rfl ?_
  all_goals repeat' (first
    | (with_reducible rfl)
    | (conv => whnf
       first
         | exact trivial
         | (with_reducible rfl)
         | exact (rfl : (0 : Int) = ((0 : Nat) : Int))
         | exact w64_nat (by (try dsimp only); first | omega | exact lt_map (by assumption) | exact ge_map (by assumption) | (have := lt_map (by assumption); omega) | (have := ge_map (by assumption); omega) | (simp only [List.length_map, List.length_replicate] at *; omega))
         | refine bcase_T (by first | with_reducible rfl | decide) ?_
         | refine bcase_F (by first | with_reducible rfl | decide) ?_
         | refine bcase_dec (fun _ => ?_) (fun _ => ?_)
         | refine bcase_not ?_
         | refine bcase_intro (fun _ => ?_) (fun _ => ?_)
         | refine ⟨(by with_reducible rfl), ?_⟩
         | refine ⟨congrArg vi ?_, ?_⟩
         | refine ⟨congrArg vb ?_, ?_⟩
         | refine ⟨rfl, ?_⟩
         | refine ⟨(by kernel_rfl : drawOK _ = true), ?_⟩
         | refine Or.inl ?_
         | refine ⟨⟨congrArg (T.int _) ?_, rfl⟩, ?_⟩
         | refine ⟨⟨congrArg T.bool ?_, rfl⟩, ?_⟩
         | refine ⟨⟨rfl, Nat.le_of_ble_eq_true rfl⟩, ?_⟩
         | refine ⟨⟨rfl, ?_⟩, ?_⟩
         | refine ⟨⟨⟨rfl, rfl, rfl⟩, ?_⟩, ?_⟩
         | refine ⟨_, _, rfl, row_get _ _ (by (try dsimp only); first | omega | exact lt_map (by assumption) | exact ge_map (by assumption) | (have := lt_map (by assumption); omega) | (have := ge_map (by assumption); omega) | (simp only [List.length_map, List.length_replicate] at *; omega)), rfl, ?_⟩
         | refine ⟨(xs.map DTransfer.e).length, ⟨rfl, rfl⟩, ⟨(by simp only [List.length_map]; show _ * 24 ≤ _; omega), (by simp only [List.length_map]; omega)⟩, ?_⟩
         | fail))
  conv => whnf
  refine ⟨Nat, fun i => i ≤ xs.length, fun i => ⟨[(0, vl (xs.map DTransfer.e)), (3, .c (.ref 0)), (4, vi i)], [(0, .row true true 3 (fill DTransfer.e [I 0, I 0, I 0] xs i))], 1⟩, fun i => xs.length - i, 0, Nat.zero_le _, ⟨[(0, some 0)], rfl, rfl, rfl, ?_, ?_⟩, fun i (hi : i ≤ xs.length) => ?_⟩
  all_goals repeat' (first
    | (with_reducible rfl)
    | (conv => whnf
       first
         | exact trivial
         | (with_reducible rfl)
         | exact (rfl : (0 : Int) = ((0 : Nat) : Int))
         | exact w64_nat (by (try dsimp only); first | omega | exact lt_map (by assumption) | exact ge_map (by assumption) | (have := lt_map (by assumption); omega) | (have := ge_map (by assumption); omega) | (simp only [List.length_map, List.length_replicate] at *; omega))
         | refine bcase_T (by first | with_reducible rfl | decide) ?_
         | refine bcase_F (by first | with_reducible rfl | decide) ?_
         | refine bcase_dec (fun _ => ?_) (fun _ => ?_)
         | refine bcase_not ?_
         | refine bcase_intro (fun _ => ?_) (fun _ => ?_)
         | refine ⟨(by with_reducible rfl), ?_⟩
         | refine ⟨congrArg vi ?_, ?_⟩
         | refine ⟨congrArg vb ?_, ?_⟩
         | refine ⟨rfl, ?_⟩
         | refine ⟨(by kernel_rfl : drawOK _ = true), ?_⟩
         | refine Or.inl ?_
         | refine ⟨⟨congrArg (T.int _) ?_, rfl⟩, ?_⟩
         | refine ⟨⟨congrArg T.bool ?_, rfl⟩, ?_⟩
         | refine ⟨⟨rfl, Nat.le_of_ble_eq_true rfl⟩, ?_⟩
         | refine ⟨⟨rfl, ?_⟩, ?_⟩
         | refine ⟨⟨⟨rfl, rfl, rfl⟩, ?_⟩, ?_⟩
         | refine ⟨_, _, rfl, row_get _ _ (by (try dsimp only); first | omega | exact lt_map (by assumption) | exact ge_map (by assumption) | (have := lt_map (by assumption); omega) | (have := ge_map (by assumption); omega) | (simp only [List.length_map, List.length_replicate] at *; omega)), rfl, ?_⟩
         | refine ⟨_, c_toTransfer _, ?_⟩
         | refine ⟨i, rfl, (by rw [fill_len hi]; first | assumption | (simp only [List.length_map] at *; omega)), ?_⟩
         | refine ⟨_, fill_get (by (try dsimp only); first | omega | exact lt_map (by assumption) | exact ge_map (by assumption) | (have := lt_map (by assumption); omega) | (have := ge_map (by assumption); omega) | (simp only [List.length_map, List.length_replicate] at *; omega)), ⟨rfl, Nat.le_of_ble_eq_true rfl⟩, ?_⟩
         | refine ⟨i + 1, ⟨(by (try dsimp only); first | omega | exact lt_map (by assumption) | exact ge_map (by assumption) | (have := lt_map (by assumption); omega) | (have := ge_map (by assumption); omega) | (simp only [List.length_map, List.length_replicate] at *; omega)), (by (try dsimp only); first | omega | exact lt_map (by assumption) | exact ge_map (by assumption) | (have := lt_map (by assumption); omega) | (have := ge_map (by assumption); omega) | (simp only [List.length_map, List.length_replicate] at *; omega))⟩, ⟨[(0, some 0)], rfl, rfl, rfl, ?_, ?_⟩⟩
         | fail))
  · rw [List.length_map]; exact fill_zero.symm
  · exact fill_set (by (try dsimp only); first | omega | exact lt_map (by assumption) | exact ge_map (by assumption) | (have := lt_map (by assumption); omega) | (have := ge_map (by assumption); omega) | (simp only [List.length_map, List.length_replicate] at *; omega))
  · exact fill_all (by (try dsimp only); first | omega | exact lt_map (by assumption) | exact ge_map (by assumption) | (have := lt_map (by assumption); omega) | (have := ge_map (by assumption); omega) | (simp only [List.length_map, List.length_replicate] at *; omega))
def DTransfer.eqb (x y : DTransfer) : Bool := [x.From, x.To, x.Bytes] == [y.From, y.To, y.Bytes]
theorem DTransfer.eqb_self (x : DTransfer) : x.eqb x = true := by simp [DTransfer.eqb]
def total (xs : List DTransfer) : Int := xs.foldl (fun a x => w64 (a + x.Bytes)) 0
def bytesOf (k : Int) (xs : List DTransfer) : Int := xs.foldl (fun a x => if x.From = k ∨ x.To = k then w64 (a + x.Bytes) else a) 0
theorem bytesOf_take (k : Int) (xs : List DTransfer) {i : Nat} (h : i < xs.length) : bytesOf k (xs.take (i + 1)) = if xs[i].From = k ∨ xs[i].To = k then w64 (bytesOf k (xs.take i) + xs[i].Bytes) else bytesOf k (xs.take i) := foldl_take _ _ _ h
theorem c_eqTransfer (x : DTransfer) : FnAt Try.prog 56 [.agg x.e, .agg x.e] [.one (.s (.bool true))] := by
  refine fn_of Try.func56 rfl (by kernel_rfl) rfl ?_
  all_goals repeat' (first
    | (with_reducible rfl)
    | (conv => whnf
       first
         | exact trivial
         | (with_reducible rfl)
         | exact (rfl : (0 : Int) = ((0 : Nat) : Int))
         | exact w64_nat (by (try dsimp only); first | omega | exact lt_map (by assumption) | exact ge_map (by assumption) | (have := lt_map (by assumption); omega) | (have := ge_map (by assumption); omega) | (simp only [List.length_map, List.length_replicate] at *; omega))
         | refine bcase_T (by first | with_reducible rfl | decide) ?_
         | refine bcase_F (by first | with_reducible rfl | decide) ?_
         | refine bcase_dec (fun _ => ?_) (fun _ => ?_)
         | refine bcase_not ?_
         | refine bcase_intro (fun _ => ?_) (fun _ => ?_)
         | refine ⟨(by with_reducible rfl), ?_⟩
         | refine ⟨congrArg vi ?_, ?_⟩
         | refine ⟨congrArg vb ?_, ?_⟩
         | refine ⟨rfl, ?_⟩
         | refine ⟨(by kernel_rfl : drawOK _ = true), ?_⟩
         | refine Or.inl ?_
         | refine ⟨⟨congrArg (T.int _) ?_, rfl⟩, ?_⟩
         | refine ⟨⟨congrArg T.bool ?_, rfl⟩, ?_⟩
         | refine ⟨⟨rfl, Nat.le_of_ble_eq_true rfl⟩, ?_⟩
         | refine ⟨⟨rfl, ?_⟩, ?_⟩
         | refine ⟨⟨⟨rfl, rfl, rfl⟩, ?_⟩, ?_⟩
         | refine ⟨_, _, rfl, row_get _ _ (by (try dsimp only); first | omega | exact lt_map (by assumption) | exact ge_map (by assumption) | (have := lt_map (by assumption); omega) | (have := ge_map (by assumption); omega) | (simp only [List.length_map, List.length_replicate] at *; omega)), rfl, ?_⟩
         | fail))
  all_goals simp_all
theorem c_eqTransferS (xs : List DTransfer) (hx : xs.length ≤ 1048576) : FnAt Try.prog 23 [.one (L DTransfer.e xs), .one (L DTransfer.e xs)] [.one (.s (.bool true))] := by
  refine fn_of Try.func23 rfl (by kernel_rfl) rfl ?_
  all_goals repeat' (first
    | (with_reducible rfl)
    | (conv => whnf
       first
         | exact trivial
         | (with_reducible rfl)
         | exact (rfl : (0 : Int) = ((0 : Nat) : Int))
         | exact w64_nat (by (try dsimp only); first | omega | exact lt_map (by assumption) | exact ge_map (by assumption) | (have := lt_map (by assumption); omega) | (have := ge_map (by assumption); omega) | (simp only [List.length_map, List.length_replicate] at *; omega))
         | refine bcase_T (by first | with_reducible rfl | decide) ?_
         | refine bcase_F (by first | with_reducible rfl | decide) ?_
         | refine bcase_dec (fun _ => ?_) (fun _ => ?_)
         | refine bcase_not ?_
         | refine bcase_intro (fun _ => ?_) (fun _ => ?_)
         | refine ⟨(by with_reducible rfl), ?_⟩
         | refine ⟨congrArg vi ?_, ?_⟩
         | refine ⟨congrArg vb ?_, ?_⟩
         | refine ⟨rfl, ?_⟩
         | refine ⟨(by kernel_rfl : drawOK _ = true), ?_⟩
         | refine Or.inl ?_
         | refine ⟨⟨congrArg (T.int _) ?_, rfl⟩, ?_⟩
         | refine ⟨⟨congrArg T.bool ?_, rfl⟩, ?_⟩
         | refine ⟨⟨rfl, Nat.le_of_ble_eq_true rfl⟩, ?_⟩
         | refine ⟨⟨rfl, ?_⟩, ?_⟩
         | refine ⟨⟨⟨rfl, rfl, rfl⟩, ?_⟩, ?_⟩
         | refine ⟨_, _, rfl, row_get _ _ (by (try dsimp only); first | omega | exact lt_map (by assumption) | exact ge_map (by assumption) | (have := lt_map (by assumption); omega) | (have := ge_map (by assumption); omega) | (simp only [List.length_map, List.length_replicate] at *; omega)), rfl, ?_⟩
         | fail))
  conv => whnf
  refine ⟨Nat, fun i => i ≤ xs.length, fun i => ⟨[(0, vl (xs.map DTransfer.e)), (1, vl (xs.map DTransfer.e)), (5, vi i)], [], 0⟩, fun i => xs.length - i, 0, Nat.zero_le _, ⟨[], rfl, rfl, rfl, ?_, ?_⟩, fun i (hi : i ≤ xs.length) => ?_⟩
  all_goals repeat' (first
    | (with_reducible rfl)
    | (conv => whnf
       first
         | exact trivial
         | (with_reducible rfl)
         | exact (rfl : (0 : Int) = ((0 : Nat) : Int))
         | exact w64_nat (by (try dsimp only); first | omega | exact lt_map (by assumption) | exact ge_map (by assumption) | (have := lt_map (by assumption); omega) | (have := ge_map (by assumption); omega) | (simp only [List.length_map, List.length_replicate] at *; omega))
         | refine bcase_T (by first | with_reducible rfl | decide) ?_
         | refine bcase_F (by first | with_reducible rfl | decide) ?_
         | refine bcase_dec (fun _ => ?_) (fun _ => ?_)
         | refine bcase_not ?_
         | refine bcase_intro (fun _ => ?_) (fun _ => ?_)
         | refine ⟨(by with_reducible rfl), ?_⟩
         | refine ⟨congrArg vi ?_, ?_⟩
         | refine ⟨congrArg vb ?_, ?_⟩
         | refine ⟨rfl, ?_⟩
         | refine ⟨(by kernel_rfl : drawOK _ = true), ?_⟩
         | refine Or.inl ?_
         | refine ⟨⟨congrArg (T.int _) ?_, rfl⟩, ?_⟩
         | refine ⟨⟨congrArg T.bool ?_, rfl⟩, ?_⟩
         | refine ⟨⟨rfl, Nat.le_of_ble_eq_true rfl⟩, ?_⟩
         | refine ⟨⟨rfl, ?_⟩, ?_⟩
         | refine ⟨⟨⟨rfl, rfl, rfl⟩, ?_⟩, ?_⟩
         | refine ⟨_, _, rfl, row_get _ _ (by (try dsimp only); first | omega | exact lt_map (by assumption) | exact ge_map (by assumption) | (have := lt_map (by assumption); omega) | (have := ge_map (by assumption); omega) | (simp only [List.length_map, List.length_replicate] at *; omega)), rfl, ?_⟩
         | refine ⟨_, c_eqTransfer _, ?_⟩
         | refine ⟨i + 1, ⟨(by (try dsimp only); first | omega | exact lt_map (by assumption) | exact ge_map (by assumption) | (have := lt_map (by assumption); omega) | (have := ge_map (by assumption); omega) | (simp only [List.length_map, List.length_replicate] at *; omega)), (by (try dsimp only); first | omega | exact lt_map (by assumption) | exact ge_map (by assumption) | (have := lt_map (by assumption); omega) | (have := ge_map (by assumption); omega) | (simp only [List.length_map, List.length_replicate] at *; omega))⟩, ⟨[], rfl, rfl, rfl, ?_, ?_⟩⟩
         | fail))
  all_goals simp_all
theorem c_sTotalBytes (xs : List DTransfer) (hx : xs.length ≤ 1048576) : FnAt Try.prog 20 [.one (L DTransfer.e xs)] [.one (.s (I (total xs)))] := by
  refine fn_of Try.func20 rfl (by kernel_rfl) rfl ?_
  all_goals repeat' (first
    | (with_reducible rfl)
    | (conv => whnf
       first
         | exact trivial
         | (with_reducible rfl)
         | exact (rfl : (0 : Int) = ((0 : Nat) : Int))
         | exact w64_nat (by (try dsimp only); first | omega | exact lt_map (by assumption) | exact ge_map (by assumption) | (have := lt_map (by assumption); omega) | (have := ge_map (by assumption); omega) | (simp only [List.length_map, List.length_replicate] at *; omega))
         | refine bcase_T (by first | with_reducible rfl | decide) ?_
         | refine bcase_F (by first | with_reducible rfl | decide) ?_
         | refine bcase_dec (fun _ => ?_) (fun _ => ?_)
         | refine bcase_not ?_
         | refine bcase_intro (fun _ => ?_) (fun _ => ?_)
         | refine ⟨(by with_reducible rfl), ?_⟩
         | refine ⟨congrArg vi ?_, ?_⟩
         | refine ⟨congrArg vb ?_, ?_⟩
         | refine ⟨rfl, ?_⟩
         | refine ⟨(by kernel_rfl : drawOK _ = true), ?_⟩
         | refine Or.inl ?_
         | refine ⟨⟨congrArg (T.int _) ?_, rfl⟩, ?_⟩
         | refine ⟨⟨congrArg T.bool ?_, rfl⟩, ?_⟩
         | refine ⟨⟨rfl, Nat.le_of_ble_eq_true rfl⟩, ?_⟩
         | refine ⟨⟨rfl, ?_⟩, ?_⟩
         | refine ⟨⟨⟨rfl, rfl, rfl⟩, ?_⟩, ?_⟩
         | refine ⟨_, _, rfl, row_get _ _ (by (try dsimp only); first | omega | exact lt_map (by assumption) | exact ge_map (by assumption) | (have := lt_map (by assumption); omega) | (have := ge_map (by assumption); omega) | (simp only [List.length_map, List.length_replicate] at *; omega)), rfl, ?_⟩
         | fail))
  conv => whnf
  refine ⟨Nat, fun i => i ≤ xs.length, fun i => ⟨[(0, vl (xs.map DTransfer.e)), (3, vi (total (xs.take i))), (4, vi i)], [], 0⟩, fun i => xs.length - i, 0, Nat.zero_le _, ⟨[], rfl, rfl, rfl, ?_, ?_⟩, fun i (hi : i ≤ xs.length) => ?_⟩
  all_goals repeat' (first
    | (with_reducible rfl)
    | (conv => whnf
       first
         | exact trivial
         | (with_reducible rfl)
         | exact (rfl : (0 : Int) = ((0 : Nat) : Int))
         | exact w64_nat (by (try dsimp only); first | omega | exact lt_map (by assumption) | exact ge_map (by assumption) | (have := lt_map (by assumption); omega) | (have := ge_map (by assumption); omega) | (simp only [List.length_map, List.length_replicate] at *; omega))
         | refine bcase_T (by first | with_reducible rfl | decide) ?_
         | refine bcase_F (by first | with_reducible rfl | decide) ?_
         | refine bcase_dec (fun _ => ?_) (fun _ => ?_)
         | refine bcase_not ?_
         | refine bcase_intro (fun _ => ?_) (fun _ => ?_)
         | refine ⟨(by with_reducible rfl), ?_⟩
         | refine ⟨congrArg vi ?_, ?_⟩
         | refine ⟨congrArg vb ?_, ?_⟩
         | refine ⟨rfl, ?_⟩
         | refine ⟨(by kernel_rfl : drawOK _ = true), ?_⟩
         | refine Or.inl ?_
         | refine ⟨⟨congrArg (T.int _) ?_, rfl⟩, ?_⟩
         | refine ⟨⟨congrArg T.bool ?_, rfl⟩, ?_⟩
         | refine ⟨⟨rfl, Nat.le_of_ble_eq_true rfl⟩, ?_⟩
         | refine ⟨⟨rfl, ?_⟩, ?_⟩
         | refine ⟨⟨⟨rfl, rfl, rfl⟩, ?_⟩, ?_⟩
         | refine ⟨_, _, rfl, row_get _ _ (by (try dsimp only); first | omega | exact lt_map (by assumption) | exact ge_map (by assumption) | (have := lt_map (by assumption); omega) | (have := ge_map (by assumption); omega) | (simp only [List.length_map, List.length_replicate] at *; omega)), rfl, ?_⟩
         | refine ⟨i + 1, ⟨(by (try dsimp only); first | omega | exact lt_map (by assumption) | exact ge_map (by assumption) | (have := lt_map (by assumption); omega) | (have := ge_map (by assumption); omega) | (simp only [List.length_map, List.length_replicate] at *; omega)), (by (try dsimp only); first | omega | exact lt_map (by assumption) | exact ge_map (by assumption) | (have := lt_map (by assumption); omega) | (have := ge_map (by assumption); omega) | (simp only [List.length_map, List.length_replicate] at *; omega))⟩, ⟨[], rfl, rfl, rfl, ?_, ?_⟩⟩
         | fail))
  · exact Eq.symm (foldl_take _ _ _ (by (try dsimp only); first | omega | exact lt_map (by assumption) | exact ge_map (by assumption) | (have := lt_map (by assumption); omega) | (have := ge_map (by assumption); omega) | (simp only [List.length_map, List.length_replicate] at *; omega)))
  · rw [take_all xs (by (try dsimp only); first | omega | exact lt_map (by assumption) | exact ge_map (by assumption) | (have := lt_map (by assumption); omega) | (have := ge_map (by assumption); omega) | (simp only [List.length_map, List.length_replicate] at *; omega))]
theorem c_TotalBytes (xs : List DTransfer) (hx : xs.length ≤ 1048576) : FnAt Try.prog 22 [.one (L DTransfer.e xs)] [.one (.s (I (total xs)))] := by
  refine fn_of Try.func22 rfl (by kernel_rfl) rfl ?_
  all_goals repeat' (first
    | (with_reducible rfl)
    | (conv => whnf
       first
         | exact trivial
         | (with_reducible rfl)
         | exact (rfl : (0 : Int) = ((0 : Nat) : Int))
         | exact w64_nat (by (try dsimp only); first | omega | exact lt_map (by assumption) | exact ge_map (by assumption) | (have := lt_map (by assumption); omega) | (have := ge_map (by assumption); omega) | (simp only [List.length_map, List.length_replicate] at *; omega))
         | refine bcase_T (by first | with_reducible rfl | decide) ?_
         | refine bcase_F (by first | with_reducible rfl | decide) ?_
         | refine bcase_dec (fun _ => ?_) (fun _ => ?_)
         | refine bcase_not ?_
         | refine bcase_intro (fun _ => ?_) (fun _ => ?_)
         | refine ⟨(by with_reducible rfl), ?_⟩
         | refine ⟨congrArg vi ?_, ?_⟩
         | refine ⟨congrArg vb ?_, ?_⟩
         | refine ⟨rfl, ?_⟩
         | refine ⟨(by kernel_rfl : drawOK _ = true), ?_⟩
         | refine Or.inl ?_
         | refine ⟨⟨congrArg (T.int _) ?_, rfl⟩, ?_⟩
         | refine ⟨⟨congrArg T.bool ?_, rfl⟩, ?_⟩
         | refine ⟨⟨rfl, Nat.le_of_ble_eq_true rfl⟩, ?_⟩
         | refine ⟨⟨rfl, ?_⟩, ?_⟩
         | refine ⟨⟨⟨rfl, rfl, rfl⟩, ?_⟩, ?_⟩
         | refine ⟨_, _, rfl, row_get _ _ (by (try dsimp only); first | omega | exact lt_map (by assumption) | exact ge_map (by assumption) | (have := lt_map (by assumption); omega) | (have := ge_map (by assumption); omega) | (simp only [List.length_map, List.length_replicate] at *; omega)), rfl, ?_⟩
         | fail))
  conv => whnf
  refine ⟨Nat, fun i => i ≤ xs.length, fun i => ⟨[(6, vl (xs.map DTransfer.e)), (7, vi xs.length), (3, vi (total (xs.take i))), (8, vi i)], [], 0⟩, fun i => xs.length - i, 0, Nat.zero_le _, ⟨[], rfl, rfl, rfl, ?_, ?_⟩, fun i (hi : i ≤ xs.length) => ?_⟩
  all_goals repeat' (first
    | (with_reducible rfl)
    | (conv => whnf
       first
         | exact trivial
         | (with_reducible rfl)
         | exact (rfl : (0 : Int) = ((0 : Nat) : Int))
         | exact w64_nat (by (try dsimp only); first | omega | exact lt_map (by assumption) | exact ge_map (by assumption) | (have := lt_map (by assumption); omega) | (have := ge_map (by assumption); omega) | (simp only [List.length_map, List.length_replicate] at *; omega))
         | refine bcase_T (by first | with_reducible rfl | decide) ?_
         | refine bcase_F (by first | with_reducible rfl | decide) ?_
         | refine bcase_dec (fun _ => ?_) (fun _ => ?_)
         | refine bcase_not ?_
         | refine bcase_intro (fun _ => ?_) (fun _ => ?_)
         | refine ⟨(by with_reducible rfl), ?_⟩
         | refine ⟨congrArg vi ?_, ?_⟩
         | refine ⟨congrArg vb ?_, ?_⟩
         | refine ⟨rfl, ?_⟩
         | refine ⟨(by kernel_rfl : drawOK _ = true), ?_⟩
         | refine Or.inl ?_
         | refine ⟨⟨congrArg (T.int _) ?_, rfl⟩, ?_⟩
         | refine ⟨⟨congrArg T.bool ?_, rfl⟩, ?_⟩
         | refine ⟨⟨rfl, Nat.le_of_ble_eq_true rfl⟩, ?_⟩
         | refine ⟨⟨rfl, ?_⟩, ?_⟩
         | refine ⟨⟨⟨rfl, rfl, rfl⟩, ?_⟩, ?_⟩
         | refine ⟨_, _, rfl, row_get _ _ (by (try dsimp only); first | omega | exact lt_map (by assumption) | exact ge_map (by assumption) | (have := lt_map (by assumption); omega) | (have := ge_map (by assumption); omega) | (simp only [List.length_map, List.length_replicate] at *; omega)), rfl, ?_⟩
         | refine ⟨i + 1, ⟨(by (try dsimp only); first | omega | exact lt_map (by assumption) | exact ge_map (by assumption) | (have := lt_map (by assumption); omega) | (have := ge_map (by assumption); omega) | (simp only [List.length_map, List.length_replicate] at *; omega)), (by (try dsimp only); first | omega | exact lt_map (by assumption) | exact ge_map (by assumption) | (have := lt_map (by assumption); omega) | (have := ge_map (by assumption); omega) | (simp only [List.length_map, List.length_replicate] at *; omega))⟩, ⟨[], rfl, rfl, rfl, ?_, ?_⟩⟩
         | fail))
  · rw [List.length_map]
  · exact Eq.symm (foldl_take _ _ _ (by (try dsimp only); first | omega | exact lt_map (by assumption) | exact ge_map (by assumption) | (have := lt_map (by assumption); omega) | (have := ge_map (by assumption); omega) | (simp only [List.length_map, List.length_replicate] at *; omega)))
  · rw [take_all xs (by (try dsimp only); first | omega | exact lt_map (by assumption) | exact ge_map (by assumption) | (have := lt_map (by assumption); omega) | (have := ge_map (by assumption); omega) | (simp only [List.length_map, List.length_replicate] at *; omega))]
theorem c_sBytesOf (xs : List DTransfer) (k : Int) (hx : xs.length ≤ 1048576) : FnAt Try.prog 24 [.one (L DTransfer.e xs), .one (I k)] [.one (.s (I (bytesOf k xs)))] := by
  refine fn_of Try.func24 rfl (by kernel_rfl) rfl ?_
  all_goals repeat' (first
    | (with_reducible rfl)
    | (conv => whnf
       first
         | exact trivial
         | (with_reducible rfl)
         | exact (rfl : (0 : Int) = ((0 : Nat) : Int))
         | exact w64_nat (by (try dsimp only); first | omega | exact lt_map (by assumption) | exact ge_map (by assumption) | (have := lt_map (by assumption); omega) | (have := ge_map (by assumption); omega) | (simp only [List.length_map, List.length_replicate] at *; omega))
         | refine bcase_T (by first | with_reducible rfl | decide) ?_
         | refine bcase_F (by first | with_reducible rfl | decide) ?_
         | refine bcase_dec (fun _ => ?_) (fun _ => ?_)
         | refine bcase_not ?_
         | refine bcase_intro (fun _ => ?_) (fun _ => ?_)
         | refine ⟨(by with_reducible rfl), ?_⟩
         | refine ⟨congrArg vi ?_, ?_⟩
         | refine ⟨congrArg vb ?_, ?_⟩
         | refine ⟨rfl, ?_⟩
         | refine ⟨(by kernel_rfl : drawOK _ = true), ?_⟩
         | refine Or.inl ?_
         | refine ⟨⟨congrArg (T.int _) ?_, rfl⟩, ?_⟩
         | refine ⟨⟨congrArg T.bool ?_, rfl⟩, ?_⟩
         | refine ⟨⟨rfl, Nat.le_of_ble_eq_true rfl⟩, ?_⟩
         | refine ⟨⟨rfl, ?_⟩, ?_⟩
         | refine ⟨⟨⟨rfl, rfl, rfl⟩, ?_⟩, ?_⟩
         | refine ⟨_, _, rfl, row_get _ _ (by (try dsimp only); first | omega | exact lt_map (by assumption) | exact ge_map (by assumption) | (have := lt_map (by assumption); omega) | (have := ge_map (by assumption); omega) | (simp only [List.length_map, List.length_replicate] at *; omega)), rfl, ?_⟩
         | fail))
  conv => whnf
  refine ⟨Nat, fun i => i ≤ xs.length, fun i => ⟨[(0, vl (xs.map DTransfer.e)), (1, vi k), (5, vi (bytesOf k (xs.take i))), (6, vi i)], [], 0⟩, fun i => xs.length - i, 0, Nat.zero_le _, ⟨[], rfl, rfl, rfl, ?_, ?_⟩, fun i (hi : i ≤ xs.length) => ?_⟩
  all_goals repeat' (first
    | (with_reducible rfl)
    | (conv => whnf
       first
         | exact trivial
         | (with_reducible rfl)
         | exact (rfl : (0 : Int) = ((0 : Nat) : Int))
         | exact w64_nat (by (try dsimp only); first | omega | exact lt_map (by assumption) | exact ge_map (by assumption) | (have := lt_map (by assumption); omega) | (have := ge_map (by assumption); omega) | (simp only [List.length_map, List.length_replicate] at *; omega))
         | refine bcase_T (by first | with_reducible rfl | decide) ?_
         | refine bcase_F (by first | with_reducible rfl | decide) ?_
         | refine bcase_dec (fun _ => ?_) (fun _ => ?_)
         | refine bcase_not ?_
         | refine bcase_intro (fun _ => ?_) (fun _ => ?_)
         | refine ⟨(by with_reducible rfl), ?_⟩
         | refine ⟨congrArg vi ?_, ?_⟩
         | refine ⟨congrArg vb ?_, ?_⟩
         | refine ⟨rfl, ?_⟩
         | refine ⟨(by kernel_rfl : drawOK _ = true), ?_⟩
         | refine Or.inl ?_
         | refine ⟨⟨congrArg (T.int _) ?_, rfl⟩, ?_⟩
         | refine ⟨⟨congrArg T.bool ?_, rfl⟩, ?_⟩
         | refine ⟨⟨rfl, Nat.le_of_ble_eq_true rfl⟩, ?_⟩
         | refine ⟨⟨rfl, ?_⟩, ?_⟩
         | refine ⟨⟨⟨rfl, rfl, rfl⟩, ?_⟩, ?_⟩
         | refine ⟨_, _, rfl, row_get _ _ (by (try dsimp only); first | omega | exact lt_map (by assumption) | exact ge_map (by assumption) | (have := lt_map (by assumption); omega) | (have := ge_map (by assumption); omega) | (simp only [List.length_map, List.length_replicate] at *; omega)), rfl, ?_⟩
         | refine ⟨i + 1, ⟨(by (try dsimp only); first | omega | exact lt_map (by assumption) | exact ge_map (by assumption) | (have := lt_map (by assumption); omega) | (have := ge_map (by assumption); omega) | (simp only [List.length_map, List.length_replicate] at *; omega)), (by (try dsimp only); first | omega | exact lt_map (by assumption) | exact ge_map (by assumption) | (have := lt_map (by assumption); omega) | (have := ge_map (by assumption); omega) | (simp only [List.length_map, List.length_replicate] at *; omega))⟩, ⟨[], rfl, rfl, rfl, ?_, ?_⟩⟩
         | fail))
  all_goals first | (rw [take_all xs (by (try dsimp only); first | omega | exact lt_map (by assumption) | exact ge_map (by assumption) | (have := lt_map (by assumption); omega) | (have := ge_map (by assumption); omega) | (simp only [List.length_map, List.length_replicate] at *; omega))]) | (rw [bytesOf_take k xs (by (try dsimp only); first | omega | exact lt_map (by assumption) | exact ge_map (by assumption) | (have := lt_map (by assumption); omega) | (have := ge_map (by assumption); omega) | (simp only [List.length_map, List.length_replicate] at *; omega))]; simp_all)
theorem c_BytesOf (xs : List DTransfer) (k : Int) (hx : xs.length ≤ 1048576) : FnAt Try.prog 25 [.one (L DTransfer.e xs), .one (I k)] [.one (.s (I (bytesOf k xs)))] := by
  refine fn_of Try.func25 rfl (by kernel_rfl) rfl ?_
  all_goals repeat' (first
    | (with_reducible rfl)
    | (conv => whnf
       first
         | exact trivial
         | (with_reducible rfl)
         | exact (rfl : (0 : Int) = ((0 : Nat) : Int))
         | exact w64_nat (by (try dsimp only); first | omega | exact lt_map (by assumption) | exact ge_map (by assumption) | (have := lt_map (by assumption); omega) | (have := ge_map (by assumption); omega) | (simp only [List.length_map, List.length_replicate] at *; omega))
         | refine bcase_T (by first | with_reducible rfl | decide) ?_
         | refine bcase_F (by first | with_reducible rfl | decide) ?_
         | refine bcase_dec (fun _ => ?_) (fun _ => ?_)
         | refine bcase_not ?_
         | refine bcase_intro (fun _ => ?_) (fun _ => ?_)
         | refine ⟨(by with_reducible rfl), ?_⟩
         | refine ⟨congrArg vi ?_, ?_⟩
         | refine ⟨congrArg vb ?_, ?_⟩
         | refine ⟨rfl, ?_⟩
         | refine ⟨(by kernel_rfl : drawOK _ = true), ?_⟩
         | refine Or.inl ?_
         | refine ⟨⟨congrArg (T.int _) ?_, rfl⟩, ?_⟩
         | refine ⟨⟨congrArg T.bool ?_, rfl⟩, ?_⟩
         | refine ⟨⟨rfl, Nat.le_of_ble_eq_true rfl⟩, ?_⟩
         | refine ⟨⟨rfl, ?_⟩, ?_⟩
         | refine ⟨⟨⟨rfl, rfl, rfl⟩, ?_⟩, ?_⟩
         | refine ⟨_, _, rfl, row_get _ _ (by (try dsimp only); first | omega | exact lt_map (by assumption) | exact ge_map (by assumption) | (have := lt_map (by assumption); omega) | (have := ge_map (by assumption); omega) | (simp only [List.length_map, List.length_replicate] at *; omega)), rfl, ?_⟩
         | fail))
  conv => whnf
  refine ⟨Nat, fun i => i ≤ xs.length, fun i => ⟨[(8, vl (xs.map DTransfer.e)), (9, vi xs.length), (1, vi k), (5, vi (bytesOf k (xs.take i))), (10, vi i)], [], 0⟩, fun i => xs.length - i, 0, Nat.zero_le _, ⟨[], rfl, rfl, rfl, ?_, ?_⟩, fun i (hi : i ≤ xs.length) => ?_⟩
  all_goals repeat' (first
    | (with_reducible rfl)
    | (conv => whnf
       first
         | exact trivial
         | (with_reducible rfl)
         | exact (rfl : (0 : Int) = ((0 : Nat) : Int))
         | exact w64_nat (by (try dsimp only); first | omega | exact lt_map (by assumption) | exact ge_map (by assumption) | (have := lt_map (by assumption); omega) | (have := ge_map (by assumption); omega) | (simp only [List.length_map, List.length_replicate] at *; omega))
         | refine bcase_T (by first | with_reducible rfl | decide) ?_
         | refine bcase_F (by first | with_reducible rfl | decide) ?_
         | refine bcase_dec (fun _ => ?_) (fun _ => ?_)
         | refine bcase_not ?_
         | refine bcase_intro (fun _ => ?_) (fun _ => ?_)
         | refine ⟨(by with_reducible rfl), ?_⟩
         | refine ⟨congrArg vi ?_, ?_⟩
         | refine ⟨congrArg vb ?_, ?_⟩
         | refine ⟨rfl, ?_⟩
         | refine ⟨(by kernel_rfl : drawOK _ = true), ?_⟩
         | refine Or.inl ?_
         | refine ⟨⟨congrArg (T.int _) ?_, rfl⟩, ?_⟩
         | refine ⟨⟨congrArg T.bool ?_, rfl⟩, ?_⟩
         | refine ⟨⟨rfl, Nat.le_of_ble_eq_true rfl⟩, ?_⟩
         | refine ⟨⟨rfl, ?_⟩, ?_⟩
         | refine ⟨⟨⟨rfl, rfl, rfl⟩, ?_⟩, ?_⟩
         | refine ⟨_, _, rfl, row_get _ _ (by (try dsimp only); first | omega | exact lt_map (by assumption) | exact ge_map (by assumption) | (have := lt_map (by assumption); omega) | (have := ge_map (by assumption); omega) | (simp only [List.length_map, List.length_replicate] at *; omega)), rfl, ?_⟩
         | refine ⟨i + 1, ⟨(by (try dsimp only); first | omega | exact lt_map (by assumption) | exact ge_map (by assumption) | (have := lt_map (by assumption); omega) | (have := ge_map (by assumption); omega) | (simp only [List.length_map, List.length_replicate] at *; omega)), (by (try dsimp only); first | omega | exact lt_map (by assumption) | exact ge_map (by assumption) | (have := lt_map (by assumption); omega) | (have := ge_map (by assumption); omega) | (simp only [List.length_map, List.length_replicate] at *; omega))⟩, ⟨[], rfl, rfl, rfl, ?_, ?_⟩⟩
         | fail))
  all_goals first | (rw [List.length_map]) | (rw [take_all xs (by (try dsimp only); first | omega | exact lt_map (by assumption) | exact ge_map (by assumption) | (have := lt_map (by assumption); omega) | (have := ge_map (by assumption); omega) | (simp only [List.length_map, List.length_replicate] at *; omega))]) | (rw [bytesOf_take k xs (by (try dsimp only); first | omega | exact lt_map (by assumption) | exact ge_map (by assumption) | (have := lt_map (by assumption); omega) | (have := ge_map (by assumption); omega) | (simp only [List.length_map, List.length_replicate] at *; omega))]; simp_all)
theorem szS_le {n : Nat} {k : Int} (h : ¬ szS n k < 0) : (n : Int) ≤ k ∧ szS n k = k - n := by
  unfold szS at h ⊢
  by_cases h2 : k - (n : Int) < 0
  · rw [if_pos h2] at h; omega
  · rw [if_neg h2]; omega
theorem c_FnExactTotalBytes (a0 : List DTransfer) (k0 : okL DTransfer.ok a0) : FnAt Try.prog 5 [.one (L DTransfer.e a0)] [.one (.s (.bool true))] := by
  have k0 := k0.1
  refine fn_of Try.func5 rfl (by kernel_rfl) rfl ?_
  all_goals repeat' (first
    | (with_reducible rfl)
    | (conv => whnf
       first
         | exact trivial
         | (with_reducible rfl)
         | exact (rfl : (0 : Int) = ((0 : Nat) : Int))
         | exact w64_nat (by (try dsimp only); first | omega | exact lt_map (by assumption) | exact ge_map (by assumption) | (have := lt_map (by assumption); omega) | (have := ge_map (by assumption); omega) | (simp only [List.length_map, List.length_replicate] at *; omega))
         | refine bcase_T (by first | with_reducible rfl | decide) ?_
         | refine bcase_F (by first | with_reducible rfl | decide) ?_
         | refine bcase_dec (fun _ => ?_) (fun _ => ?_)
         | refine bcase_not ?_
         | refine bcase_intro (fun _ => ?_) (fun _ => ?_)
         | refine ⟨(by with_reducible rfl), ?_⟩
         | refine ⟨congrArg vi ?_, ?_⟩
         | refine ⟨congrArg vb ?_, ?_⟩
         | refine ⟨rfl, ?_⟩
         | refine ⟨(by kernel_rfl : drawOK _ = true), ?_⟩
         | refine Or.inl ?_
         | refine ⟨⟨congrArg (T.int _) ?_, rfl⟩, ?_⟩
         | refine ⟨⟨congrArg T.bool ?_, rfl⟩, ?_⟩
         | refine ⟨⟨rfl, Nat.le_of_ble_eq_true rfl⟩, ?_⟩
         | refine ⟨⟨rfl, ?_⟩, ?_⟩
         | refine ⟨⟨⟨rfl, rfl, rfl⟩, ?_⟩, ?_⟩
         | refine ⟨_, _, rfl, row_get _ _ (by (try dsimp only); first | omega | exact lt_map (by assumption) | exact ge_map (by assumption) | (have := lt_map (by assumption); omega) | (have := ge_map (by assumption); omega) | (simp only [List.length_map, List.length_replicate] at *; omega)), rfl, ?_⟩
         | refine ⟨_, c_szTransferS _ _ k0 (by omega), ?_⟩
         | refine ⟨_, c_toTransferS _ (by have := szS_le (by assumption); omega), ?_⟩
         | refine ⟨_, c_sTotalBytes _ (by have := szS_le (by assumption); omega), ?_⟩
         | refine ⟨_, c_TotalBytes _ (by have := szS_le (by assumption); omega), ?_⟩
         | refine ⟨_, c_eqTransferS _ (by have := szS_le (by assumption); omega), ?_⟩
         | fail))
  all_goals simp_all
theorem c_FnExactBytesOf (a0 : List DTransfer) (a1 : Int) (k0 : okL DTransfer.ok a0) (_ : okI a1) : FnAt Try.prog 6 [.one (L DTransfer.e a0), .one (I a1)] [.one (.s (.bool true))] := by
  have k0 := k0.1
  refine fn_of Try.func6 rfl (by kernel_rfl) rfl ?_
  all_goals repeat' (first
    | (with_reducible rfl)
    | (conv => whnf
       first
         | exact trivial
         | (with_reducible rfl)
         | exact (rfl : (0 : Int) = ((0 : Nat) : Int))
         | exact w64_nat (by (try dsimp only); first | omega | exact lt_map (by assumption) | exact ge_map (by assumption) | (have := lt_map (by assumption); omega) | (have := ge_map (by assumption); omega) | (simp only [List.length_map, List.length_replicate] at *; omega))
         | refine bcase_T (by first | with_reducible rfl | decide) ?_
         | refine bcase_F (by first | with_reducible rfl | decide) ?_
         | refine bcase_dec (fun _ => ?_) (fun _ => ?_)
         | refine bcase_not ?_
         | refine bcase_intro (fun _ => ?_) (fun _ => ?_)
         | refine ⟨(by with_reducible rfl), ?_⟩
         | refine ⟨congrArg vi ?_, ?_⟩
         | refine ⟨congrArg vb ?_, ?_⟩
         | refine ⟨rfl, ?_⟩
         | refine ⟨(by kernel_rfl : drawOK _ = true), ?_⟩
         | refine Or.inl ?_
         | refine ⟨⟨congrArg (T.int _) ?_, rfl⟩, ?_⟩
         | refine ⟨⟨congrArg T.bool ?_, rfl⟩, ?_⟩
         | refine ⟨⟨rfl, Nat.le_of_ble_eq_true rfl⟩, ?_⟩
         | refine ⟨⟨rfl, ?_⟩, ?_⟩
         | refine ⟨⟨⟨rfl, rfl, rfl⟩, ?_⟩, ?_⟩
         | refine ⟨_, _, rfl, row_get _ _ (by (try dsimp only); first | omega | exact lt_map (by assumption) | exact ge_map (by assumption) | (have := lt_map (by assumption); omega) | (have := ge_map (by assumption); omega) | (simp only [List.length_map, List.length_replicate] at *; omega)), rfl, ?_⟩
         | refine ⟨_, c_szTransferS _ _ k0 (by omega), ?_⟩
         | refine ⟨_, c_toTransferS _ (by have := szS_le (by assumption); omega), ?_⟩
         | refine ⟨_, c_sBytesOf _ _ (by have := szS_le (by assumption); omega), ?_⟩
         | refine ⟨_, c_BytesOf _ _ (by have := szS_le (by assumption); omega), ?_⟩
         | refine ⟨_, c_eqTransferS _ (by have := szS_le (by assumption); omega), ?_⟩
         | fail))
  all_goals simp_all
end Go.Proofs.Ytkjheelgilffiaa
