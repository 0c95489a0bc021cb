/-
  Contracts: ranges, sizes, transfers.
  Conditions: none.
-/
import Derived.Test.YtkjheelgilffiaaFnH
namespace Go.Proofs.Ytkjheelgilffiaa
set_option maxHeartbeats 4000000
open Go.Vm Go.RowKit

def inR (a b c : Int) : Bool := decide (b ≤ a) && decide (a ≤ c)
theorem inR_iff {a b c : Int} : inR a b c = true ↔ b ≤ a ∧ a ≤ c := by simp [inR]
theorem inR_not {a b c : Int} : inR a b c = false ↔ ¬ (b ≤ a ∧ a ≤ c) := by rw [← inR_iff]; simp
theorem c_l1In (a b c : Int) : FnAt Try.prog 52 [.one (I a), .one (I b), .one (I c)] [.one (.s (.bool (inR a b c)))] := by
  refine fn_of Try.func52 rfl (by kernel_rfl) rfl ?_
  all_goals repeat' (first
    | (with_reducible rfl)
    | (conv => whnf
       first
         | exact trivial
         | (with_reducible rfl)
         | exact (rfl : (0 : Int) = ((0 : Nat) : Int))
         | exact w64_nat (by (try dsimp only); first | omega | exact lt_map (by assumption) | exact ge_map (by assumption) | (have := lt_map (by assumption); omega) | (have := ge_map (by assumption); omega) | (have := lt_mkm (by assumption); omega) | (have := ge_mkm (by assumption); omega) | (have := lt_mkr (by assumption); omega) | (have := ge_mkr (by assumption); omega) | (simp only [List.length_map, List.length_replicate] at *; omega))
         | refine bcase_T (by first | with_reducible rfl | decide) ?_
         | refine bcase_F (by first | with_reducible rfl | decide) ?_
         | refine bcase_dec (fun _ => ?_) (fun _ => ?_)
         | refine bcase_not ?_
         | refine bcase_intro (fun _ => ?_) (fun _ => ?_)
         | refine ⟨(by with_reducible rfl), ?_⟩
         | refine ⟨congrArg vi ?_, ?_⟩
         | refine ⟨congrArg vb ?_, ?_⟩
         | refine ⟨rfl, ?_⟩
         | refine ⟨(by kernel_rfl : drawOK _ = true), ?_⟩
         | refine Or.inl ?_
         | refine ⟨⟨congrArg (T.int _) ?_, rfl⟩, ?_⟩
         | refine ⟨⟨congrArg T.bool ?_, rfl⟩, ?_⟩
         | refine ⟨⟨rfl, Nat.le_of_ble_eq_true rfl⟩, ?_⟩
         | refine ⟨⟨rfl, rfl⟩, ?_⟩
         | refine ⟨⟨rfl, (by decide)⟩, ?_⟩
         | refine ⟨⟨rfl, ?_⟩, ?_⟩
         | refine ⟨Or.inr rfl, ?_⟩
         | refine ⟨Or.inl rfl, ?_⟩
         | refine ⟨⟨⟨rfl, rfl, rfl⟩, ?_⟩, ?_⟩
         | refine ⟨_, _, rfl, row_get _ _ (by (try dsimp only); first | omega | exact lt_map (by assumption) | exact ge_map (by assumption) | (have := lt_map (by assumption); omega) | (have := ge_map (by assumption); omega) | (have := lt_mkm (by assumption); omega) | (have := ge_mkm (by assumption); omega) | (have := lt_mkr (by assumption); omega) | (have := ge_mkr (by assumption); omega) | (simp only [List.length_map, List.length_replicate] at *; omega)), rfl, ?_⟩
         | refine ⟨(?_ : _ = ([] : List (List T))), ?_⟩
         | fail))
  all_goals (simp_all [inR] <;> omega)
theorem c_InRange (a b c : Int) : FnAt Try.prog 53 [.one (I a), .one (I b), .one (I c)] [.one (.s (.bool (inR a b c)))] := by
  refine fn_of Try.func53 rfl (by kernel_rfl) rfl ?_
  all_goals repeat' (first
    | (with_reducible rfl)
    | (conv => whnf
       first
         | exact trivial
         | (with_reducible rfl)
         | exact (rfl : (0 : Int) = ((0 : Nat) : Int))
         | exact w64_nat (by (try dsimp only); first | omega | exact lt_map (by assumption) | exact ge_map (by assumption) | (have := lt_map (by assumption); omega) | (have := ge_map (by assumption); omega) | (have := lt_mkm (by assumption); omega) | (have := ge_mkm (by assumption); omega) | (have := lt_mkr (by assumption); omega) | (have := ge_mkr (by assumption); omega) | (simp only [List.length_map, List.length_replicate] at *; omega))
         | refine bcase_T (by first | with_reducible rfl | decide) ?_
         | refine bcase_F (by first | with_reducible rfl | decide) ?_
         | refine bcase_dec (fun _ => ?_) (fun _ => ?_)
         | refine bcase_not ?_
         | refine bcase_intro (fun _ => ?_) (fun _ => ?_)
         | refine ⟨(by with_reducible rfl), ?_⟩
         | refine ⟨congrArg vi ?_, ?_⟩
         | refine ⟨congrArg vb ?_, ?_⟩
         | refine ⟨rfl, ?_⟩
         | refine ⟨(by kernel_rfl : drawOK _ = true), ?_⟩
         | refine Or.inl ?_
         | refine ⟨⟨congrArg (T.int _) ?_, rfl⟩, ?_⟩
         | refine ⟨⟨congrArg T.bool ?_, rfl⟩, ?_⟩
         | refine ⟨⟨rfl, Nat.le_of_ble_eq_true rfl⟩, ?_⟩
         | refine ⟨⟨rfl, rfl⟩, ?_⟩
         | refine ⟨⟨rfl, (by decide)⟩, ?_⟩
         | refine ⟨⟨rfl, ?_⟩, ?_⟩
         | refine ⟨Or.inr rfl, ?_⟩
         | refine ⟨Or.inl rfl, ?_⟩
         | refine ⟨⟨⟨rfl, rfl, rfl⟩, ?_⟩, ?_⟩
         | refine ⟨_, _, rfl, row_get _ _ (by (try dsimp only); first | omega | exact lt_map (by assumption) | exact ge_map (by assumption) | (have := lt_map (by assumption); omega) | (have := ge_map (by assumption); omega) | (have := lt_mkm (by assumption); omega) | (have := ge_mkm (by assumption); omega) | (have := lt_mkr (by assumption); omega) | (have := ge_mkr (by assumption); omega) | (simp only [List.length_map, List.length_replicate] at *; omega)), rfl, ?_⟩
         | refine ⟨(?_ : _ = ([] : List (List T))), ?_⟩
         | fail))
  all_goals (simp_all [inR] <;> omega)
def shareSize (a : Int) : Int := if 1 ≤ a ∧ a ≤ 64 then 24 * a else 0
theorem c_sShareSize (a : Int) : FnAt Try.prog 15 [.one (I a)] [.one (.s (I (shareSize a)))] := by
  refine fn_of Try.func15 rfl (by kernel_rfl) rfl ?_
  all_goals repeat' (first
    | (with_reducible rfl)
    | (conv => whnf
       first
         | exact trivial
         | (with_reducible rfl)
         | exact (rfl : (0 : Int) = ((0 : Nat) : Int))
         | exact w64_nat (by (try dsimp only); first | omega | exact lt_map (by assumption) | exact ge_map (by assumption) | (have := lt_map (by assumption); omega) | (have := ge_map (by assumption); omega) | (have := lt_mkm (by assumption); omega) | (have := ge_mkm (by assumption); omega) | (have := lt_mkr (by assumption); omega) | (have := ge_mkr (by assumption); omega) | (simp only [List.length_map, List.length_replicate] at *; omega))
         | refine bcase_T (by first | with_reducible rfl | decide) ?_
         | refine bcase_F (by first | with_reducible rfl | decide) ?_
         | refine bcase_dec (fun _ => ?_) (fun _ => ?_)
         | refine bcase_not ?_
         | refine bcase_intro (fun _ => ?_) (fun _ => ?_)
         | refine ⟨(by with_reducible rfl), ?_⟩
         | refine ⟨congrArg vi ?_, ?_⟩
         | refine ⟨congrArg vb ?_, ?_⟩
         | refine ⟨rfl, ?_⟩
         | refine ⟨(by kernel_rfl : drawOK _ = true), ?_⟩
         | refine Or.inl ?_
         | refine ⟨⟨congrArg (T.int _) ?_, rfl⟩, ?_⟩
         | refine ⟨⟨congrArg T.bool ?_, rfl⟩, ?_⟩
         | refine ⟨⟨rfl, Nat.le_of_ble_eq_true rfl⟩, ?_⟩
         | refine ⟨⟨rfl, rfl⟩, ?_⟩
         | refine ⟨⟨rfl, (by decide)⟩, ?_⟩
         | refine ⟨⟨rfl, ?_⟩, ?_⟩
         | refine ⟨Or.inr rfl, ?_⟩
         | refine ⟨Or.inl rfl, ?_⟩
         | refine ⟨⟨⟨rfl, rfl, rfl⟩, ?_⟩, ?_⟩
         | refine ⟨_, _, rfl, row_get _ _ (by (try dsimp only); first | omega | exact lt_map (by assumption) | exact ge_map (by assumption) | (have := lt_map (by assumption); omega) | (have := ge_map (by assumption); omega) | (have := lt_mkm (by assumption); omega) | (have := ge_mkm (by assumption); omega) | (have := lt_mkr (by assumption); omega) | (have := ge_mkr (by assumption); omega) | (simp only [List.length_map, List.length_replicate] at *; omega)), rfl, ?_⟩
         | refine ⟨(?_ : _ = ([] : List (List T))), ?_⟩
         | refine ⟨_, c_l1In _ _ _, ?_⟩
         | fail))
  all_goals simp only [inR_iff, inR_not] at *
  · rw [shareSize, if_pos (by omega), w64_ok (by omega) (by omega)]; omega
  · rw [shareSize, if_neg (by omega)]
theorem c_ShareSize (a : Int) : FnAt Try.prog 16 [.one (I a)] [.one (.s (I (shareSize a)))] := by
  refine fn_of Try.func16 rfl (by kernel_rfl) rfl ?_
  all_goals repeat' (first
    | (with_reducible rfl)
    | (conv => whnf
       first
         | exact trivial
         | (with_reducible rfl)
         | exact (rfl : (0 : Int) = ((0 : Nat) : Int))
         | exact w64_nat (by (try dsimp only); first | omega | exact lt_map (by assumption) | exact ge_map (by assumption) | (have := lt_map (by assumption); omega) | (have := ge_map (by assumption); omega) | (have := lt_mkm (by assumption); omega) | (have := ge_mkm (by assumption); omega) | (have := lt_mkr (by assumption); omega) | (have := ge_mkr (by assumption); omega) | (simp only [List.length_map, List.length_replicate] at *; omega))
         | refine bcase_T (by first | with_reducible rfl | decide) ?_
         | refine bcase_F (by first | with_reducible rfl | decide) ?_
         | refine bcase_dec (fun _ => ?_) (fun _ => ?_)
         | refine bcase_not ?_
         | refine bcase_intro (fun _ => ?_) (fun _ => ?_)
         | refine ⟨(by with_reducible rfl), ?_⟩
         | refine ⟨congrArg vi ?_, ?_⟩
         | refine ⟨congrArg vb ?_, ?_⟩
         | refine ⟨rfl, ?_⟩
         | refine ⟨(by kernel_rfl : drawOK _ = true), ?_⟩
         | refine Or.inl ?_
         | refine ⟨⟨congrArg (T.int _) ?_, rfl⟩, ?_⟩
         | refine ⟨⟨congrArg T.bool ?_, rfl⟩, ?_⟩
         | refine ⟨⟨rfl, Nat.le_of_ble_eq_true rfl⟩, ?_⟩
         | refine ⟨⟨rfl, rfl⟩, ?_⟩
         | refine ⟨⟨rfl, (by decide)⟩, ?_⟩
         | refine ⟨⟨rfl, ?_⟩, ?_⟩
         | refine ⟨Or.inr rfl, ?_⟩
         | refine ⟨Or.inl rfl, ?_⟩
         | refine ⟨⟨⟨rfl, rfl, rfl⟩, ?_⟩, ?_⟩
         | refine ⟨_, _, rfl, row_get _ _ (by (try dsimp only); first | omega | exact lt_map (by assumption) | exact ge_map (by assumption) | (have := lt_map (by assumption); omega) | (have := ge_map (by assumption); omega) | (have := lt_mkm (by assumption); omega) | (have := ge_mkm (by assumption); omega) | (have := lt_mkr (by assumption); omega) | (have := ge_mkr (by assumption); omega) | (simp only [List.length_map, List.length_replicate] at *; omega)), rfl, ?_⟩
         | refine ⟨(?_ : _ = ([] : List (List T))), ?_⟩
         | refine ⟨_, c_InRange _ _ _, ?_⟩
         | fail))
  all_goals simp only [inR_iff, inR_not] at *
  · rw [shareSize, if_pos (by omega), w64_ok (by omega) (by omega)]; omega
  · rw [shareSize, if_neg (by omega)]
theorem c_FnExactShareSize (a0 : Int) (_ : okI a0) : FnAt Try.prog 3 [.one (I a0)] [.one (.s (.bool true))] := by
  refine fn_of Try.func3 rfl (by kernel_rfl) rfl ?_
  all_goals repeat' (first
    | (with_reducible rfl)
    | (conv => whnf
       first
         | exact trivial
         | (with_reducible rfl)
         | exact (rfl : (0 : Int) = ((0 : Nat) : Int))
         | exact w64_nat (by (try dsimp only); first | omega | exact lt_map (by assumption) | exact ge_map (by assumption) | (have := lt_map (by assumption); omega) | (have := ge_map (by assumption); omega) | (have := lt_mkm (by assumption); omega) | (have := ge_mkm (by assumption); omega) | (have := lt_mkr (by assumption); omega) | (have := ge_mkr (by assumption); omega) | (simp only at *; omega))
         | refine bcase_T (by first | with_reducible rfl | decide) ?_
         | refine bcase_F (by first | with_reducible rfl | decide) ?_
         | refine bcase_dec (fun _ => ?_) (fun _ => ?_)
         | refine bcase_not ?_
         | refine bcase_intro (fun _ => ?_) (fun _ => ?_)
         | refine ⟨(by with_reducible rfl), ?_⟩
         | refine ⟨congrArg vi ?_, ?_⟩
         | refine ⟨congrArg vb ?_, ?_⟩
         | refine ⟨rfl, ?_⟩
         | refine ⟨(by kernel_rfl : drawOK _ = true), ?_⟩
         | refine Or.inl ?_
         | refine ⟨⟨congrArg (T.int _) ?_, rfl⟩, ?_⟩
         | refine ⟨⟨congrArg T.bool ?_, rfl⟩, ?_⟩
         | refine ⟨⟨rfl, Nat.le_of_ble_eq_true rfl⟩, ?_⟩
         | refine ⟨⟨rfl, rfl⟩, ?_⟩
         | refine ⟨⟨rfl, (by decide)⟩, ?_⟩
         | refine ⟨⟨rfl, ?_⟩, ?_⟩
         | refine ⟨Or.inr rfl, ?_⟩
         | refine ⟨Or.inl rfl, ?_⟩
         | refine ⟨⟨⟨rfl, rfl, rfl⟩, ?_⟩, ?_⟩
         | refine ⟨_, _, rfl, row_get _ _ (by (try dsimp only); first | omega | exact lt_map (by assumption) | exact ge_map (by assumption) | (have := lt_map (by assumption); omega) | (have := ge_map (by assumption); omega) | (have := lt_mkm (by assumption); omega) | (have := ge_mkm (by assumption); omega) | (have := lt_mkr (by assumption); omega) | (have := ge_mkr (by assumption); omega) | (simp only [List.length_map, List.length_replicate] at *; omega)), rfl, ?_⟩
         | refine ⟨(?_ : _ = ([] : List (List T))), ?_⟩
         | refine ⟨_, c_sShareSize _, ?_⟩
         | refine ⟨_, c_ShareSize _, ?_⟩
         | fail))
  all_goals simp_all
theorem tdiv_ok {n : Int} (h : 0 ≤ n) (k : Int) : n.tdiv k = n / k := Int.tdiv_eq_ediv_of_nonneg h
def ceil8 (a : Int) : Int := if 0 ≤ a ∧ a ≤ 1000000000000 then (a + 7) / 8 else 0
def selSize (a : Int) : Int := if 1 ≤ a ∧ a ≤ 64 then 1 + (a + 7) / 8 else 0
theorem c_CeilDiv (a : Int) : FnAt Try.prog 54 [.one (I a), .one (I 8)] [.one (.s (I (ceil8 a)))] := by
  refine fn_of Try.func54 rfl (by kernel_rfl) rfl ?_
  all_goals repeat' (first
    | (with_reducible rfl)
    | (conv => whnf
       first
         | exact trivial
         | (with_reducible rfl)
         | exact (rfl : (0 : Int) = ((0 : Nat) : Int))
         | exact w64_nat (by (try dsimp only); first | omega | exact lt_map (by assumption) | exact ge_map (by assumption) | (have := lt_map (by assumption); omega) | (have := ge_map (by assumption); omega) | (have := lt_mkm (by assumption); omega) | (have := ge_mkm (by assumption); omega) | (have := lt_mkr (by assumption); omega) | (have := ge_mkr (by assumption); omega) | (simp only [List.length_map, List.length_replicate] at *; omega))
         | refine bcase_T (by first | with_reducible rfl | decide) ?_
         | refine bcase_F (by first | with_reducible rfl | decide) ?_
         | refine bcase_dec (fun _ => ?_) (fun _ => ?_)
         | refine bcase_not ?_
         | refine bcase_intro (fun _ => ?_) (fun _ => ?_)
         | refine ⟨(by with_reducible rfl), ?_⟩
         | refine ⟨congrArg vi ?_, ?_⟩
         | refine ⟨congrArg vb ?_, ?_⟩
         | refine ⟨rfl, ?_⟩
         | refine ⟨(by kernel_rfl : drawOK _ = true), ?_⟩
         | refine Or.inl ?_
         | refine ⟨⟨congrArg (T.int _) ?_, rfl⟩, ?_⟩
         | refine ⟨⟨congrArg T.bool ?_, rfl⟩, ?_⟩
         | refine ⟨⟨rfl, Nat.le_of_ble_eq_true rfl⟩, ?_⟩
         | refine ⟨⟨rfl, rfl⟩, ?_⟩
         | refine ⟨⟨rfl, (by decide)⟩, ?_⟩
         | refine ⟨⟨rfl, ?_⟩, ?_⟩
         | refine ⟨Or.inr rfl, ?_⟩
         | refine ⟨Or.inl rfl, ?_⟩
         | refine ⟨⟨⟨rfl, rfl, rfl⟩, ?_⟩, ?_⟩
         | refine ⟨_, _, rfl, row_get _ _ (by (try dsimp only); first | omega | exact lt_map (by assumption) | exact ge_map (by assumption) | (have := lt_map (by assumption); omega) | (have := ge_map (by assumption); omega) | (have := lt_mkm (by assumption); omega) | (have := ge_mkm (by assumption); omega) | (have := lt_mkr (by assumption); omega) | (have := ge_mkr (by assumption); omega) | (simp only [List.length_map, List.length_replicate] at *; omega)), rfl, ?_⟩
         | refine ⟨(?_ : _ = ([] : List (List T))), ?_⟩
         | refine ⟨_, c_l1In _ _ _, ?_⟩
         | refine ⟨(by decide), ?_⟩
         | fail))
  all_goals simp only [inR_iff, inR_not] at *
  · rw [w64_ok (n := a + 8) (by omega) (by omega), w64_ok (n := a + 8 - 1) (by omega) (by omega), tdiv_ok (by omega), w64_ok (by omega) (by omega), ceil8, if_pos (by omega)]; omega
  · rw [ceil8, if_neg (by omega)]
theorem c_sSelectionSize (a : Int) : FnAt Try.prog 17 [.one (I a)] [.one (.s (I (selSize a)))] := by
  refine fn_of Try.func17 rfl (by kernel_rfl) rfl ?_
  all_goals repeat' (first
    | (with_reducible rfl)
    | (conv => whnf
       first
         | exact trivial
         | (with_reducible rfl)
         | exact (rfl : (0 : Int) = ((0 : Nat) : Int))
         | exact w64_nat (by (try dsimp only); first | omega | exact lt_map (by assumption) | exact ge_map (by assumption) | (have := lt_map (by assumption); omega) | (have := ge_map (by assumption); omega) | (have := lt_mkm (by assumption); omega) | (have := ge_mkm (by assumption); omega) | (have := lt_mkr (by assumption); omega) | (have := ge_mkr (by assumption); omega) | (simp only [List.length_map, List.length_replicate] at *; omega))
         | refine bcase_T (by first | with_reducible rfl | decide) ?_
         | refine bcase_F (by first | with_reducible rfl | decide) ?_
         | refine bcase_dec (fun _ => ?_) (fun _ => ?_)
         | refine bcase_not ?_
         | refine bcase_intro (fun _ => ?_) (fun _ => ?_)
         | refine ⟨(by with_reducible rfl), ?_⟩
         | refine ⟨congrArg vi ?_, ?_⟩
         | refine ⟨congrArg vb ?_, ?_⟩
         | refine ⟨rfl, ?_⟩
         | refine ⟨(by kernel_rfl : drawOK _ = true), ?_⟩
         | refine Or.inl ?_
         | refine ⟨⟨congrArg (T.int _) ?_, rfl⟩, ?_⟩
         | refine ⟨⟨congrArg T.bool ?_, rfl⟩, ?_⟩
         | refine ⟨⟨rfl, Nat.le_of_ble_eq_true rfl⟩, ?_⟩
         | refine ⟨⟨rfl, rfl⟩, ?_⟩
         | refine ⟨⟨rfl, (by decide)⟩, ?_⟩
         | refine ⟨⟨rfl, ?_⟩, ?_⟩
         | refine ⟨Or.inr rfl, ?_⟩
         | refine ⟨Or.inl rfl, ?_⟩
         | refine ⟨⟨⟨rfl, rfl, rfl⟩, ?_⟩, ?_⟩
         | refine ⟨_, _, rfl, row_get _ _ (by (try dsimp only); first | omega | exact lt_map (by assumption) | exact ge_map (by assumption) | (have := lt_map (by assumption); omega) | (have := ge_map (by assumption); omega) | (have := lt_mkm (by assumption); omega) | (have := ge_mkm (by assumption); omega) | (have := lt_mkr (by assumption); omega) | (have := ge_mkr (by assumption); omega) | (simp only [List.length_map, List.length_replicate] at *; omega)), rfl, ?_⟩
         | refine ⟨(?_ : _ = ([] : List (List T))), ?_⟩
         | refine ⟨_, c_l1In _ _ _, ?_⟩
         | refine ⟨_, c_CeilDiv _, ?_⟩
         | fail))
  all_goals simp only [inR_iff, inR_not] at *
  · rw [ceil8, selSize, if_pos (by omega), if_pos (by omega), w64_ok (by omega) (by omega)]
  · rw [selSize, if_neg (by omega)]
theorem c_SelectionSize (a : Int) : FnAt Try.prog 18 [.one (I a)] [.one (.s (I (selSize a)))] := by
  refine fn_of Try.func18 rfl (by kernel_rfl) rfl ?_
  all_goals repeat' (first
    | (with_reducible rfl)
    | (conv => whnf
       first
         | exact trivial
         | (with_reducible rfl)
         | exact (rfl : (0 : Int) = ((0 : Nat) : Int))
         | exact w64_nat (by (try dsimp only); first | omega | exact lt_map (by assumption) | exact ge_map (by assumption) | (have := lt_map (by assumption); omega) | (have := ge_map (by assumption); omega) | (have := lt_mkm (by assumption); omega) | (have := ge_mkm (by assumption); omega) | (have := lt_mkr (by assumption); omega) | (have := ge_mkr (by assumption); omega) | (simp only [List.length_map, List.length_replicate] at *; omega))
         | refine bcase_T (by first | with_reducible rfl | decide) ?_
         | refine bcase_F (by first | with_reducible rfl | decide) ?_
         | refine bcase_dec (fun _ => ?_) (fun _ => ?_)
         | refine bcase_not ?_
         | refine bcase_intro (fun _ => ?_) (fun _ => ?_)
         | refine ⟨(by with_reducible rfl), ?_⟩
         | refine ⟨congrArg vi ?_, ?_⟩
         | refine ⟨congrArg vb ?_, ?_⟩
         | refine ⟨rfl, ?_⟩
         | refine ⟨(by kernel_rfl : drawOK _ = true), ?_⟩
         | refine Or.inl ?_
         | refine ⟨⟨congrArg (T.int _) ?_, rfl⟩, ?_⟩
         | refine ⟨⟨congrArg T.bool ?_, rfl⟩, ?_⟩
         | refine ⟨⟨rfl, Nat.le_of_ble_eq_true rfl⟩, ?_⟩
         | refine ⟨⟨rfl, rfl⟩, ?_⟩
         | refine ⟨⟨rfl, (by decide)⟩, ?_⟩
         | refine ⟨⟨rfl, ?_⟩, ?_⟩
         | refine ⟨Or.inr rfl, ?_⟩
         | refine ⟨Or.inl rfl, ?_⟩
         | refine ⟨⟨⟨rfl, rfl, rfl⟩, ?_⟩, ?_⟩
         | refine ⟨_, _, rfl, row_get _ _ (by (try dsimp only); first | omega | exact lt_map (by assumption) | exact ge_map (by assumption) | (have := lt_map (by assumption); omega) | (have := ge_map (by assumption); omega) | (have := lt_mkm (by assumption); omega) | (have := ge_mkm (by assumption); omega) | (have := lt_mkr (by assumption); omega) | (have := ge_mkr (by assumption); omega) | (simp only [List.length_map, List.length_replicate] at *; omega)), rfl, ?_⟩
         | refine ⟨(?_ : _ = ([] : List (List T))), ?_⟩
         | refine ⟨_, c_InRange _ _ _, ?_⟩
         | refine ⟨(by decide), ?_⟩
         | fail))
  all_goals simp only [inR_iff, inR_not] at *
  · rw [w64_ok (n := a + 7) (by omega) (by omega), tdiv_ok (by omega), w64_ok (n := (a + 7) / 8) (by omega) (by omega), selSize, if_pos (by omega), w64_ok (by omega) (by omega)]
  · rw [selSize, if_neg (by omega)]
theorem c_FnExactSelectionSize (a0 : Int) (_ : okI a0) : FnAt Try.prog 4 [.one (I a0)] [.one (.s (.bool true))] := by
  refine fn_of Try.func4 rfl (by kernel_rfl) rfl ?_
  all_goals repeat' (first
    | (with_reducible rfl)
    | (conv => whnf
       first
         | exact trivial
         | (with_reducible rfl)
         | exact (rfl : (0 : Int) = ((0 : Nat) : Int))
         | exact w64_nat (by (try dsimp only); first | omega | exact lt_map (by assumption) | exact ge_map (by assumption) | (have := lt_map (by assumption); omega) | (have := ge_map (by assumption); omega) | (have := lt_mkm (by assumption); omega) | (have := ge_mkm (by assumption); omega) | (have := lt_mkr (by assumption); omega) | (have := ge_mkr (by assumption); omega) | (simp only at *; omega))
         | refine bcase_T (by first | with_reducible rfl | decide) ?_
         | refine bcase_F (by first | with_reducible rfl | decide) ?_
         | refine bcase_dec (fun _ => ?_) (fun _ => ?_)
         | refine bcase_not ?_
         | refine bcase_intro (fun _ => ?_) (fun _ => ?_)
         | refine ⟨(by with_reducible rfl), ?_⟩
         | refine ⟨congrArg vi ?_, ?_⟩
         | refine ⟨congrArg vb ?_, ?_⟩
         | refine ⟨rfl, ?_⟩
         | refine ⟨(by kernel_rfl : drawOK _ = true), ?_⟩
         | refine Or.inl ?_
         | refine ⟨⟨congrArg (T.int _) ?_, rfl⟩, ?_⟩
         | refine ⟨⟨congrArg T.bool ?_, rfl⟩, ?_⟩
         | refine ⟨⟨rfl, Nat.le_of_ble_eq_true rfl⟩, ?_⟩
         | refine ⟨⟨rfl, rfl⟩, ?_⟩
         | refine ⟨⟨rfl, (by decide)⟩, ?_⟩
         | refine ⟨⟨rfl, ?_⟩, ?_⟩
         | refine ⟨Or.inr rfl, ?_⟩
         | refine ⟨Or.inl rfl, ?_⟩
         | refine ⟨⟨⟨rfl, rfl, rfl⟩, ?_⟩, ?_⟩
         | refine ⟨_, _, rfl, row_get _ _ (by (try dsimp only); first | omega | exact lt_map (by assumption) | exact ge_map (by assumption) | (have := lt_map (by assumption); omega) | (have := ge_map (by assumption); omega) | (have := lt_mkm (by assumption); omega) | (have := ge_mkm (by assumption); omega) | (have := lt_mkr (by assumption); omega) | (have := ge_mkr (by assumption); omega) | (simp only [List.length_map, List.length_replicate] at *; omega)), rfl, ?_⟩
         | refine ⟨(?_ : _ = ([] : List (List T))), ?_⟩
         | refine ⟨_, c_sSelectionSize _, ?_⟩
         | refine ⟨_, c_SelectionSize _, ?_⟩
         | fail))
  all_goals simp_all
end Go.Proofs.Ytkjheelgilffiaa
