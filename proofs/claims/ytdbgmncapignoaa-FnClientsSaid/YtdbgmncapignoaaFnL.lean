/-
  Contracts: lists of bytes; lists of such lists.
  Conditions: none.
-/
import Derived.Test.YtdbgmncapignoaaVmY
import Derived.Test.YtdbgmncapignoaaVmAc
namespace Go.Proofs.Ytdbgmncapignoaa
set_option maxHeartbeats 4000000
set_option maxRecDepth 20000
open Go.Vm Go.RowKit
attribute [local irreducible] FnAt MutAt InAt JAt CurAt FnE CurE RegAt

theorem c_Clone8 (xs : List UInt8) (hx : xs.length ≤ 1099511627776) : FnAt Try.prog 110 [.one (L eU xs)] [.one (.l 1 (xs.map eU))] := by
  refine fn_of Try.func110 rfl (by kernel_rfl) rfl ?_
  all_goals repeat' (first
    | (with_reducible rfl)
    | (conv => whnf
       first
         | exact trivial
         | (with_reducible rfl)
         | exact (rfl : (0 : Int) = ((0 : Nat) : Int))
         | exact w64_nat arith
         | refine bcase_T (by first | with_reducible rfl | decide) ?_
         | refine bcase_F (by first | with_reducible rfl | decide) ?_
         | refine bcase_dec (fun _ => ?_) (fun _ => ?_)
         | refine bcase_not ?_
         | refine bcase_intro (fun _ => ?_) (fun _ => ?_)
         | refine ⟨(by with_reducible rfl), ?_⟩
         | refine ⟨congrArg vi ?_, ?_⟩
         | refine ⟨congrArg vb ?_, ?_⟩
         | refine ⟨rfl, ?_⟩
         | refine ⟨(by kernel_rfl : drawOK _ = true), ?_⟩
         | refine Or.inl ?_
         | refine ⟨⟨congrArg (T.int _) ?_, rfl⟩, ?_⟩
         | refine ⟨⟨congrArg T.bool ?_, rfl⟩, ?_⟩
         | refine ⟨⟨rfl, Nat.le_of_ble_eq_true rfl⟩, ?_⟩
         | refine ⟨⟨rfl, rfl⟩, ?_⟩
         | refine ⟨⟨rfl, (by decide)⟩, ?_⟩
         | refine ⟨⟨rfl, ?_⟩, ?_⟩
         | refine ⟨Or.inr rfl, ?_⟩
         | refine ⟨Or.inl rfl, ?_⟩
         | refine ⟨⟨⟨rfl, rfl, rfl⟩, ?_⟩, ?_⟩
         | refine ⟨_, _, rfl, row_get _ _ arith, rfl, ?_⟩
         | refine ⟨Or.inr (by repeat (first | exact trivial | refine ⟨rfl, ?_⟩)), ?_⟩
         | refine ⟨(?_ : _ = ([] : List (List T))), ?_⟩
         | refine ⟨true, fun _ => scalU _, lenU _, ⟨bnd, bnd⟩, ?_⟩
         | refine ⟨fun hnil => ?_, ?_⟩
         | fail))
  all_goals simp_all
theorem c_Equal8 (xs ys : List UInt8) (hx : xs.length ≤ 1099511627776) : FnAt Try.prog 105 [.one (L eU xs), .one (L eU ys)] [.one (.s (.bool (xs == ys)))] := by
  rw [← eqL_beq]
  refine fn_of Try.func105 rfl (by kernel_rfl) rfl ?_
  all_goals repeat' (first
    | (with_reducible rfl)
    | (conv => whnf
       first
         | exact trivial
         | (with_reducible rfl)
         | exact (rfl : (0 : Int) = ((0 : Nat) : Int))
         | exact w64_nat arith
         | refine bcase_T (by first | with_reducible rfl | decide) ?_
         | refine bcase_F (by first | with_reducible rfl | decide) ?_
         | refine bcase_dec (fun _ => ?_) (fun _ => ?_)
         | refine bcase_not ?_
         | refine bcase_intro (fun _ => ?_) (fun _ => ?_)
         | refine ⟨(by with_reducible rfl), ?_⟩
         | refine ⟨congrArg vi ?_, ?_⟩
         | refine ⟨congrArg vb ?_, ?_⟩
         | refine ⟨rfl, ?_⟩
         | refine ⟨(by kernel_rfl : drawOK _ = true), ?_⟩
         | refine Or.inl ?_
         | refine ⟨⟨congrArg (T.int _) ?_, rfl⟩, ?_⟩
         | refine ⟨⟨congrArg T.bool ?_, rfl⟩, ?_⟩
         | refine ⟨⟨rfl, Nat.le_of_ble_eq_true rfl⟩, ?_⟩
         | refine ⟨⟨rfl, rfl⟩, ?_⟩
         | refine ⟨⟨rfl, (by decide)⟩, ?_⟩
         | refine ⟨⟨rfl, ?_⟩, ?_⟩
         | refine ⟨Or.inr rfl, ?_⟩
         | refine ⟨Or.inl rfl, ?_⟩
         | refine ⟨⟨⟨rfl, rfl, rfl⟩, ?_⟩, ?_⟩
         | refine ⟨_, _, rfl, row_get _ _ arith, rfl, ?_⟩
         | refine ⟨Or.inr (by repeat (first | exact trivial | refine ⟨rfl, ?_⟩)), ?_⟩
         | refine ⟨(?_ : _ = ([] : List (List T))), ?_⟩
         | fail))
  rotate_left 1
  · rw [eqL_ne (by simp only [List.length_map] at *; omega)]
  conv => whnf
  have hl : xs.length = ys.length := by simp only [List.length_map] at *; omega
  refine ⟨Nat, fun i => i ≤ xs.length ∧ eqL (fun x y => x == y) xs ys = eqL (fun x y => x == y) (xs.drop i) (ys.drop i), fun i => ⟨[(0, vl (xs.map eU)), (1, vl (ys.map eU)), (12, vi xs.length), (13, vi i)], [], 0⟩, fun i => xs.length - i, 0, ⟨Nat.zero_le _, rfl⟩, ⟨[], rfl, rfl, rfl, ?_, ?_⟩, fun i hi => ?_⟩
  all_goals repeat' (first
    | (with_reducible rfl)
    | (conv => whnf
       first
         | exact trivial
         | (with_reducible rfl)
         | exact (rfl : (0 : Int) = ((0 : Nat) : Int))
         | exact w64_nat arith
         | refine bcase_T (by first | with_reducible rfl | decide) ?_
         | refine bcase_F (by first | with_reducible rfl | decide) ?_
         | refine bcase_dec (fun _ => ?_) (fun _ => ?_)
         | refine bcase_not ?_
         | refine bcase_intro (fun _ => ?_) (fun _ => ?_)
         | refine ⟨(by with_reducible rfl), ?_⟩
         | refine ⟨congrArg vi ?_, ?_⟩
         | refine ⟨congrArg vb ?_, ?_⟩
         | refine ⟨rfl, ?_⟩
         | refine ⟨(by kernel_rfl : drawOK _ = true), ?_⟩
         | refine Or.inl ?_
         | refine ⟨⟨congrArg (T.int _) ?_, rfl⟩, ?_⟩
         | refine ⟨⟨congrArg T.bool ?_, rfl⟩, ?_⟩
         | refine ⟨⟨rfl, Nat.le_of_ble_eq_true rfl⟩, ?_⟩
         | refine ⟨⟨rfl, rfl⟩, ?_⟩
         | refine ⟨⟨rfl, (by decide)⟩, ?_⟩
         | refine ⟨⟨rfl, ?_⟩, ?_⟩
         | refine ⟨Or.inr rfl, ?_⟩
         | refine ⟨Or.inl rfl, ?_⟩
         | refine ⟨⟨⟨rfl, rfl, rfl⟩, ?_⟩, ?_⟩
         | refine ⟨_, _, rfl, row_get _ _ arith, rfl, ?_⟩
         | refine ⟨Or.inr (by repeat (first | exact trivial | refine ⟨rfl, ?_⟩)), ?_⟩
         | refine ⟨(?_ : _ = ([] : List (List T))), ?_⟩
         | refine ⟨i + 1, ⟨⟨arith, ?_⟩, arith⟩, ⟨[], rfl, rfl, rfl, ?_, ?_⟩⟩
         | fail))
  all_goals first
    | (rw [List.length_map])
    | (rw [hi.2, eqL_step_T (by omega) (by omega) (u8_T (by assumption))]; done)
    | (rw [hi.2, eqL_step_F (by omega) (by omega) (u8_F (by assumption))]; done)
    | (rw [hi.2, eqL_end hl (by omega)])
theorem c_EqualBytes (xs ys : List UInt8) (hx : xs.length ≤ 1099511627776) : FnAt Try.prog 47 [.one (L eU xs), .one (L eU ys)] [.one (.s (.bool (xs == ys)))] := by
  refine fn_of Try.func47 rfl (by kernel_rfl) rfl ?_
  all_goals repeat' (first
    | (with_reducible rfl)
    | (conv => whnf
       first
         | exact trivial
         | (with_reducible rfl)
         | exact (rfl : (0 : Int) = ((0 : Nat) : Int))
         | exact w64_nat arith
         | refine bcase_T (by first | with_reducible rfl | decide) ?_
         | refine bcase_F (by first | with_reducible rfl | decide) ?_
         | refine bcase_dec (fun _ => ?_) (fun _ => ?_)
         | refine bcase_not ?_
         | refine bcase_intro (fun _ => ?_) (fun _ => ?_)
         | refine ⟨(by with_reducible rfl), ?_⟩
         | refine ⟨congrArg vi ?_, ?_⟩
         | refine ⟨congrArg vb ?_, ?_⟩
         | refine ⟨rfl, ?_⟩
         | refine ⟨(by kernel_rfl : drawOK _ = true), ?_⟩
         | refine Or.inl ?_
         | refine ⟨⟨congrArg (T.int _) ?_, rfl⟩, ?_⟩
         | refine ⟨⟨congrArg T.bool ?_, rfl⟩, ?_⟩
         | refine ⟨⟨rfl, Nat.le_of_ble_eq_true rfl⟩, ?_⟩
         | refine ⟨⟨rfl, rfl⟩, ?_⟩
         | refine ⟨⟨rfl, (by decide)⟩, ?_⟩
         | refine ⟨⟨rfl, ?_⟩, ?_⟩
         | refine ⟨Or.inr rfl, ?_⟩
         | refine ⟨Or.inl rfl, ?_⟩
         | refine ⟨⟨⟨rfl, rfl, rfl⟩, ?_⟩, ?_⟩
         | refine ⟨_, _, rfl, row_get _ _ arith, rfl, ?_⟩
         | refine ⟨Or.inr (by repeat (first | exact trivial | refine ⟨rfl, ?_⟩)), ?_⟩
         | refine ⟨(?_ : _ = ([] : List (List T))), ?_⟩
         | refine ⟨_, c_Equal8 _ _ hx, ?_⟩
         | fail))
  all_goals rfl
theorem c_sEqualBytes (xs ys : List UInt8) : FnAt Try.prog 54 [.one (L eU xs), .one (L eU ys)] [.one (.s (.bool (xs == ys)))] := by
  refine fn_of Try.func54 rfl (by kernel_rfl) rfl ?_
  all_goals repeat' (first
    | (with_reducible rfl)
    | (conv => whnf
       first
         | exact trivial
         | (with_reducible rfl)
         | exact (rfl : (0 : Int) = ((0 : Nat) : Int))
         | exact w64_nat arith
         | refine bcase_T (by first | with_reducible rfl | decide) ?_
         | refine bcase_F (by first | with_reducible rfl | decide) ?_
         | refine bcase_dec (fun _ => ?_) (fun _ => ?_)
         | refine bcase_not ?_
         | refine bcase_intro (fun _ => ?_) (fun _ => ?_)
         | refine ⟨(by with_reducible rfl), ?_⟩
         | refine ⟨congrArg vi ?_, ?_⟩
         | refine ⟨congrArg vb ?_, ?_⟩
         | refine ⟨rfl, ?_⟩
         | refine ⟨(by kernel_rfl : drawOK _ = true), ?_⟩
         | refine Or.inl ?_
         | refine ⟨⟨congrArg (T.int _) ?_, rfl⟩, ?_⟩
         | refine ⟨⟨congrArg T.bool ?_, rfl⟩, ?_⟩
         | refine ⟨⟨rfl, Nat.le_of_ble_eq_true rfl⟩, ?_⟩
         | refine ⟨⟨rfl, rfl⟩, ?_⟩
         | refine ⟨⟨rfl, (by decide)⟩, ?_⟩
         | refine ⟨⟨rfl, ?_⟩, ?_⟩
         | refine ⟨Or.inr rfl, ?_⟩
         | refine ⟨Or.inl rfl, ?_⟩
         | refine ⟨⟨⟨rfl, rfl, rfl⟩, ?_⟩, ?_⟩
         | refine ⟨_, _, rfl, row_get _ _ arith, rfl, ?_⟩
         | refine ⟨Or.inr (by repeat (first | exact trivial | refine ⟨rfl, ?_⟩)), ?_⟩
         | refine ⟨(?_ : _ = ([] : List (List T))), ?_⟩
         | refine ⟨_, rfl, ?_⟩
         | fail))
  all_goals exact str_eq _ _
theorem c_EqualFuncB (xs ys : List (List UInt8)) (hx : xs.length ≤ 1099511627776) (hs : ∀ x ∈ xs, x.length ≤ 1099511627776) : FnAt Try.prog 116 [.one (L (eL eU) xs), .one (L (eL eU) ys), .one (.fn 47 [])] [.one (.s (.bool (xs == ys)))] := by
  rw [← eqL_beq]
  refine fn_of Try.func116 rfl (by kernel_rfl) rfl ?_
  all_goals repeat' (first
    | (with_reducible rfl)
    | (conv => whnf
       first
         | exact trivial
         | (with_reducible rfl)
         | exact (rfl : (0 : Int) = ((0 : Nat) : Int))
         | exact w64_nat arith
         | refine bcase_T (by first | with_reducible rfl | decide) ?_
         | refine bcase_F (by first | with_reducible rfl | decide) ?_
         | refine bcase_dec (fun _ => ?_) (fun _ => ?_)
         | refine bcase_not ?_
         | refine bcase_intro (fun _ => ?_) (fun _ => ?_)
         | refine ⟨(by with_reducible rfl), ?_⟩
         | refine ⟨congrArg vi ?_, ?_⟩
         | refine ⟨congrArg vb ?_, ?_⟩
         | refine ⟨rfl, ?_⟩
         | refine ⟨(by kernel_rfl : drawOK _ = true), ?_⟩
         | refine Or.inl ?_
         | refine ⟨⟨congrArg (T.int _) ?_, rfl⟩, ?_⟩
         | refine ⟨⟨congrArg T.bool ?_, rfl⟩, ?_⟩
         | refine ⟨⟨rfl, Nat.le_of_ble_eq_true rfl⟩, ?_⟩
         | refine ⟨⟨rfl, rfl⟩, ?_⟩
         | refine ⟨⟨rfl, (by decide)⟩, ?_⟩
         | refine ⟨⟨rfl, ?_⟩, ?_⟩
         | refine ⟨Or.inr rfl, ?_⟩
         | refine ⟨Or.inl rfl, ?_⟩
         | refine ⟨⟨⟨rfl, rfl, rfl⟩, ?_⟩, ?_⟩
         | refine ⟨_, _, rfl, row_get _ _ arith, rfl, ?_⟩
         | refine ⟨Or.inr (by repeat (first | exact trivial | refine ⟨rfl, ?_⟩)), ?_⟩
         | refine ⟨(?_ : _ = ([] : List (List T))), ?_⟩
         | fail))
  rotate_left 1
  · rw [eqL_ne (by simp only [List.length_map] at *; omega)]
  conv => whnf
  have hl : xs.length = ys.length := by simp only [List.length_map] at *; omega
  refine ⟨Nat, fun i => i ≤ xs.length ∧ eqL (fun x y => x == y) xs ys = eqL (fun x y => x == y) (xs.drop i) (ys.drop i), fun i => ⟨[(1, vl (ys.map (eL eU))), (2, .c (.t (.fn 47 []))), (15, vl (xs.map (eL eU))), (16, vi xs.length), (17, vi i)], [], 0⟩, fun i => xs.length - i, 0, ⟨Nat.zero_le _, rfl⟩, ⟨[], rfl, rfl, rfl, ?_, ?_⟩, fun i hi => ?_⟩
  all_goals repeat' (first
    | (with_reducible rfl)
    | (conv => whnf
       first
         | exact trivial
         | (with_reducible rfl)
         | exact (rfl : (0 : Int) = ((0 : Nat) : Int))
         | exact w64_nat arith
         | refine bcase_T (by first | with_reducible rfl | decide) ?_
         | refine bcase_F (by first | with_reducible rfl | decide) ?_
         | refine bcase_dec (fun _ => ?_) (fun _ => ?_)
         | refine bcase_not ?_
         | refine bcase_intro (fun _ => ?_) (fun _ => ?_)
         | refine ⟨(by with_reducible rfl), ?_⟩
         | refine ⟨congrArg vi ?_, ?_⟩
         | refine ⟨congrArg vb ?_, ?_⟩
         | refine ⟨rfl, ?_⟩
         | refine ⟨(by kernel_rfl : drawOK _ = true), ?_⟩
         | refine Or.inl ?_
         | refine ⟨⟨congrArg (T.int _) ?_, rfl⟩, ?_⟩
         | refine ⟨⟨congrArg T.bool ?_, rfl⟩, ?_⟩
         | refine ⟨⟨rfl, Nat.le_of_ble_eq_true rfl⟩, ?_⟩
         | refine ⟨⟨rfl, rfl⟩, ?_⟩
         | refine ⟨⟨rfl, (by decide)⟩, ?_⟩
         | refine ⟨⟨rfl, ?_⟩, ?_⟩
         | refine ⟨Or.inr rfl, ?_⟩
         | refine ⟨Or.inl rfl, ?_⟩
         | refine ⟨⟨⟨rfl, rfl, rfl⟩, ?_⟩, ?_⟩
         | refine ⟨_, _, rfl, row_get _ _ arith, rfl, ?_⟩
         | refine ⟨Or.inr (by repeat (first | exact trivial | refine ⟨rfl, ?_⟩)), ?_⟩
         | refine ⟨(?_ : _ = ([] : List (List T))), ?_⟩
         | refine ⟨_, c_EqualBytes _ _ (hs _ (List.getElem_mem _)), ?_⟩
         | refine ⟨i + 1, ⟨⟨arith, ?_⟩, arith⟩, ⟨[], rfl, rfl, rfl, ?_, ?_⟩⟩
         | fail))
  all_goals first
    | (rw [List.length_map])
    | (rw [hi.2, eqL_step (by omega) (by omega)]; simp_all; done)
    | (rw [hi.2, eqL_end hl (by omega)])
theorem c_EqualLists (xs ys : List (List UInt8)) (hx : xs.length ≤ 1099511627776) (hs : ∀ x ∈ xs, x.length ≤ 1099511627776) : FnAt Try.prog 57 [.one (L (eL eU) xs), .one (L (eL eU) ys)] [.one (.s (.bool (xs == ys)))] := by
  refine fn_of Try.func57 rfl (by kernel_rfl) rfl ?_
  all_goals repeat' (first
    | (with_reducible rfl)
    | (conv => whnf
       first
         | exact trivial
         | (with_reducible rfl)
         | exact (rfl : (0 : Int) = ((0 : Nat) : Int))
         | exact w64_nat arith
         | refine bcase_T (by first | with_reducible rfl | decide) ?_
         | refine bcase_F (by first | with_reducible rfl | decide) ?_
         | refine bcase_dec (fun _ => ?_) (fun _ => ?_)
         | refine bcase_not ?_
         | refine bcase_intro (fun _ => ?_) (fun _ => ?_)
         | refine ⟨(by with_reducible rfl), ?_⟩
         | refine ⟨congrArg vi ?_, ?_⟩
         | refine ⟨congrArg vb ?_, ?_⟩
         | refine ⟨rfl, ?_⟩
         | refine ⟨(by kernel_rfl : drawOK _ = true), ?_⟩
         | refine Or.inl ?_
         | refine ⟨⟨congrArg (T.int _) ?_, rfl⟩, ?_⟩
         | refine ⟨⟨congrArg T.bool ?_, rfl⟩, ?_⟩
         | refine ⟨⟨rfl, Nat.le_of_ble_eq_true rfl⟩, ?_⟩
         | refine ⟨⟨rfl, rfl⟩, ?_⟩
         | refine ⟨⟨rfl, (by decide)⟩, ?_⟩
         | refine ⟨⟨rfl, ?_⟩, ?_⟩
         | refine ⟨Or.inr rfl, ?_⟩
         | refine ⟨Or.inl rfl, ?_⟩
         | refine ⟨⟨⟨rfl, rfl, rfl⟩, ?_⟩, ?_⟩
         | refine ⟨_, _, rfl, row_get _ _ arith, rfl, ?_⟩
         | refine ⟨Or.inr (by repeat (first | exact trivial | refine ⟨rfl, ?_⟩)), ?_⟩
         | refine ⟨(?_ : _ = ([] : List (List T))), ?_⟩
         | refine ⟨_, c_EqualFuncB _ _ hx hs, ?_⟩
         | fail))
  all_goals rfl
theorem c_sEqualLists (xs ys : List (List UInt8)) (hx : xs.length ≤ 1099511627776) : FnAt Try.prog 136 [.one (L (eL eU) xs), .one (L (eL eU) ys)] [.one (.s (.bool (xs == ys)))] := by
  rw [← eqL_beq]
  refine fn_of Try.func136 rfl (by kernel_rfl) rfl ?_
  all_goals repeat' (first
    | (with_reducible rfl)
    | (conv => whnf
       first
         | exact trivial
         | (with_reducible rfl)
         | exact (rfl : (0 : Int) = ((0 : Nat) : Int))
         | exact w64_nat arith
         | refine bcase_T (by first | with_reducible rfl | decide) ?_
         | refine bcase_F (by first | with_reducible rfl | decide) ?_
         | refine bcase_dec (fun _ => ?_) (fun _ => ?_)
         | refine bcase_not ?_
         | refine bcase_intro (fun _ => ?_) (fun _ => ?_)
         | refine ⟨(by with_reducible rfl), ?_⟩
         | refine ⟨congrArg vi ?_, ?_⟩
         | refine ⟨congrArg vb ?_, ?_⟩
         | refine ⟨rfl, ?_⟩
         | refine ⟨(by kernel_rfl : drawOK _ = true), ?_⟩
         | refine Or.inl ?_
         | refine ⟨⟨congrArg (T.int _) ?_, rfl⟩, ?_⟩
         | refine ⟨⟨congrArg T.bool ?_, rfl⟩, ?_⟩
         | refine ⟨⟨rfl, Nat.le_of_ble_eq_true rfl⟩, ?_⟩
         | refine ⟨⟨rfl, rfl⟩, ?_⟩
         | refine ⟨⟨rfl, (by decide)⟩, ?_⟩
         | refine ⟨⟨rfl, ?_⟩, ?_⟩
         | refine ⟨Or.inr rfl, ?_⟩
         | refine ⟨Or.inl rfl, ?_⟩
         | refine ⟨⟨⟨rfl, rfl, rfl⟩, ?_⟩, ?_⟩
         | refine ⟨_, _, rfl, row_get _ _ arith, rfl, ?_⟩
         | refine ⟨Or.inr (by repeat (first | exact trivial | refine ⟨rfl, ?_⟩)), ?_⟩
         | refine ⟨(?_ : _ = ([] : List (List T))), ?_⟩
         | fail))
  rotate_left 1
  · rw [eqL_ne (by simp only [List.length_map] at *; omega)]
  conv => whnf
  have hl : xs.length = ys.length := by simp only [List.length_map] at *; omega
  refine ⟨Nat, fun i => i ≤ xs.length ∧ eqL (fun x y => x == y) xs ys = eqL (fun x y => x == y) (xs.drop i) (ys.drop i), fun i => ⟨[(0, vl (xs.map (eL eU))), (1, vl (ys.map (eL eU))), (5, vi i)], [], 0⟩, fun i => xs.length - i, 0, ⟨Nat.zero_le _, rfl⟩, ⟨[], rfl, rfl, rfl, ?_, ?_⟩, fun i hi => ?_⟩
  all_goals repeat' (first
    | (with_reducible rfl)
    | (conv => whnf
       first
         | exact trivial
         | (with_reducible rfl)
         | exact (rfl : (0 : Int) = ((0 : Nat) : Int))
         | exact w64_nat arith
         | refine bcase_T (by first | with_reducible rfl | decide) ?_
         | refine bcase_F (by first | with_reducible rfl | decide) ?_
         | refine bcase_dec (fun _ => ?_) (fun _ => ?_)
         | refine bcase_not ?_
         | refine bcase_intro (fun _ => ?_) (fun _ => ?_)
         | refine ⟨(by with_reducible rfl), ?_⟩
         | refine ⟨congrArg vi ?_, ?_⟩
         | refine ⟨congrArg vb ?_, ?_⟩
         | refine ⟨rfl, ?_⟩
         | refine ⟨(by kernel_rfl : drawOK _ = true), ?_⟩
         | refine Or.inl ?_
         | refine ⟨⟨congrArg (T.int _) ?_, rfl⟩, ?_⟩
         | refine ⟨⟨congrArg T.bool ?_, rfl⟩, ?_⟩
         | refine ⟨⟨rfl, Nat.le_of_ble_eq_true rfl⟩, ?_⟩
         | refine ⟨⟨rfl, rfl⟩, ?_⟩
         | refine ⟨⟨rfl, (by decide)⟩, ?_⟩
         | refine ⟨⟨rfl, ?_⟩, ?_⟩
         | refine ⟨Or.inr rfl, ?_⟩
         | refine ⟨Or.inl rfl, ?_⟩
         | refine ⟨⟨⟨rfl, rfl, rfl⟩, ?_⟩, ?_⟩
         | refine ⟨_, _, rfl, row_get _ _ arith, rfl, ?_⟩
         | refine ⟨Or.inr (by repeat (first | exact trivial | refine ⟨rfl, ?_⟩)), ?_⟩
         | refine ⟨(?_ : _ = ([] : List (List T))), ?_⟩
         | refine ⟨_, _, rfl, row_get _ _ (by have := lt_map (by assumption); omega), rfl, ?_⟩
         | refine ⟨_, c_sEqualBytes _ _, ?_⟩
         | refine ⟨i + 1, ⟨⟨arith, ?_⟩, arith⟩, ⟨[], rfl, rfl, rfl, ?_, ?_⟩⟩
         | fail))
  all_goals first
    | (have h0 := lt_map (by assumption); rw [hi.2, eqL_step h0 (by omega)]; simp_all; done)
    | (rw [hi.2, eqL_end hl (ge_map (by assumption))])
theorem c_copyLists (xs : List (List UInt8)) (hx : xs.length ≤ 1099511627776) (hs : ∀ x ∈ xs, x.length ≤ 1099511627776) : FnAt Try.prog 104 [.one (L (eL eU) xs)] [.one (.l 1 (xs.map (eL eU)))] := by
  refine fn_of Try.func104 rfl (by kernel_rfl) rfl ?_
  all_goals repeat' (first
    | (with_reducible rfl)
    | (conv => whnf
       first
         | exact trivial
         | (with_reducible rfl)
         | exact (rfl : (0 : Int) = ((0 : Nat) : Int))
         | exact w64_nat arith
         | refine bcase_T (by first | with_reducible rfl | decide) ?_
         | refine bcase_F (by first | with_reducible rfl | decide) ?_
         | refine bcase_dec (fun _ => ?_) (fun _ => ?_)
         | refine bcase_not ?_
         | refine bcase_intro (fun _ => ?_) (fun _ => ?_)
         | refine ⟨(by with_reducible rfl), ?_⟩
         | refine ⟨congrArg vi ?_, ?_⟩
         | refine ⟨congrArg vb ?_, ?_⟩
         | refine ⟨rfl, ?_⟩
         | refine ⟨(by kernel_rfl : drawOK _ = true), ?_⟩
         | refine Or.inl ?_
         | refine ⟨⟨congrArg (T.int _) ?_, rfl⟩, ?_⟩
         | refine ⟨⟨congrArg T.bool ?_, rfl⟩, ?_⟩
         | refine ⟨⟨rfl, Nat.le_of_ble_eq_true rfl⟩, ?_⟩
         | refine ⟨⟨rfl, rfl⟩, ?_⟩
         | refine ⟨⟨rfl, (by decide)⟩, ?_⟩
         | refine ⟨⟨rfl, ?_⟩, ?_⟩
         | refine ⟨Or.inr rfl, ?_⟩
         | refine ⟨Or.inl rfl, ?_⟩
         | refine ⟨⟨⟨rfl, rfl, rfl⟩, ?_⟩, ?_⟩
         | refine ⟨_, _, rfl, row_get _ _ arith, rfl, ?_⟩
         | refine ⟨Or.inr (by repeat (first | exact trivial | refine ⟨rfl, ?_⟩)), ?_⟩
         | refine ⟨(?_ : _ = ([] : List (List T))), ?_⟩
         | fail))
  conv => whnf
  refine ⟨Nat, fun i => i ≤ xs.length, fun i => ⟨[(3, .c (.ref 0)), (7, vl (xs.map (eL eU))), (8, vi xs.length), (9, vi i)], [(0, .row true true 1 ((xs.take i).map (eL eU)))], 1⟩, fun i => xs.length - i, 0, Nat.zero_le _, sub_at [(0, 3)] rfl rfl rfl ?_ ?_, fun i (hi : i ≤ xs.length) => ?_⟩
  all_goals repeat' (first
    | (with_reducible rfl)
    | (conv => whnf
       first
         | exact trivial
         | (with_reducible rfl)
         | exact (rfl : (0 : Int) = ((0 : Nat) : Int))
         | exact w64_nat arith
         | refine bcase_T (by first | with_reducible rfl | decide) ?_
         | refine bcase_F (by first | with_reducible rfl | decide) ?_
         | refine bcase_dec (fun _ => ?_) (fun _ => ?_)
         | refine bcase_not ?_
         | refine bcase_intro (fun _ => ?_) (fun _ => ?_)
         | refine ⟨(by with_reducible rfl), ?_⟩
         | refine ⟨congrArg vi ?_, ?_⟩
         | refine ⟨congrArg vb ?_, ?_⟩
         | refine ⟨rfl, ?_⟩
         | refine ⟨(by kernel_rfl : drawOK _ = true), ?_⟩
         | refine Or.inl ?_
         | refine ⟨⟨congrArg (T.int _) ?_, rfl⟩, ?_⟩
         | refine ⟨⟨congrArg T.bool ?_, rfl⟩, ?_⟩
         | refine ⟨⟨rfl, Nat.le_of_ble_eq_true rfl⟩, ?_⟩
         | refine ⟨⟨rfl, rfl⟩, ?_⟩
         | refine ⟨⟨rfl, (by decide)⟩, ?_⟩
         | refine ⟨⟨rfl, ?_⟩, ?_⟩
         | refine ⟨Or.inr rfl, ?_⟩
         | refine ⟨Or.inl rfl, ?_⟩
         | refine ⟨⟨⟨rfl, rfl, rfl⟩, ?_⟩, ?_⟩
         | refine ⟨_, _, rfl, row_get _ _ arith, rfl, ?_⟩
         | refine ⟨Or.inr (by repeat (first | exact trivial | refine ⟨rfl, ?_⟩)), ?_⟩
         | refine ⟨(?_ : _ = ([] : List (List T))), ?_⟩
         | refine ⟨_, c_Clone8 _ (hs _ (List.getElem_mem _)), ?_⟩
         | refine ⟨⟨bnd, bnd⟩, ?_⟩
         | refine ⟨i + 1, ⟨arith, arith⟩, sub_at [(0, 3)] rfl rfl rfl ?_ ?_⟩
         | fail))
  all_goals first
    | (rw [List.length_map]; done)
    | (rw [map_take_succ _ _ (by omega)]; rfl)
    | (rw [take_all _ (by omega)])
    | (simp; done)
    | skip
theorem c_l4Copy (xs : List (List UInt8)) (hx : xs.length ≤ 1099511627776) (hs : ∀ x ∈ xs, x.length ≤ 1099511627776) : FnAt Try.prog 112 [.one (L (eL eU) xs)] [.one (.l 1 (xs.map (eL eU)))] := by
  refine fn_of Try.func112 rfl (by kernel_rfl) rfl ?_
  all_goals repeat' (first
    | (with_reducible rfl)
    | (conv => whnf
       first
         | exact trivial
         | (with_reducible rfl)
         | exact (rfl : (0 : Int) = ((0 : Nat) : Int))
         | exact w64_nat arith
         | refine bcase_T (by first | with_reducible rfl | decide) ?_
         | refine bcase_F (by first | with_reducible rfl | decide) ?_
         | refine bcase_dec (fun _ => ?_) (fun _ => ?_)
         | refine bcase_not ?_
         | refine bcase_intro (fun _ => ?_) (fun _ => ?_)
         | refine ⟨(by with_reducible rfl), ?_⟩
         | refine ⟨congrArg vi ?_, ?_⟩
         | refine ⟨congrArg vb ?_, ?_⟩
         | refine ⟨rfl, ?_⟩
         | refine ⟨(by kernel_rfl : drawOK _ = true), ?_⟩
         | refine Or.inl ?_
         | refine ⟨⟨congrArg (T.int _) ?_, rfl⟩, ?_⟩
         | refine ⟨⟨congrArg T.bool ?_, rfl⟩, ?_⟩
         | refine ⟨⟨rfl, Nat.le_of_ble_eq_true rfl⟩, ?_⟩
         | refine ⟨⟨rfl, rfl⟩, ?_⟩
         | refine ⟨⟨rfl, (by decide)⟩, ?_⟩
         | refine ⟨⟨rfl, ?_⟩, ?_⟩
         | refine ⟨Or.inr rfl, ?_⟩
         | refine ⟨Or.inl rfl, ?_⟩
         | refine ⟨⟨⟨rfl, rfl, rfl⟩, ?_⟩, ?_⟩
         | refine ⟨_, _, rfl, row_get _ _ arith, rfl, ?_⟩
         | refine ⟨Or.inr (by repeat (first | exact trivial | refine ⟨rfl, ?_⟩)), ?_⟩
         | refine ⟨(?_ : _ = ([] : List (List T))), ?_⟩
         | fail))
  conv => whnf
  refine ⟨Nat, fun i => i ≤ xs.length, fun i => ⟨[(0, vl (xs.map (eL eU))), (3, .c (.ref 0)), (4, vi i)], [(0, .row true true 1 ((xs.take i).map (eL eU)))], 1⟩, fun i => xs.length - i, 0, Nat.zero_le _, sub_at [(0, 3)] rfl rfl rfl ?_ ?_, fun i (hi : i ≤ xs.length) => ?_⟩
  all_goals repeat' (first
    | (with_reducible rfl)
    | (conv => whnf
       first
         | exact trivial
         | (with_reducible rfl)
         | exact (rfl : (0 : Int) = ((0 : Nat) : Int))
         | exact w64_nat arith
         | refine bcase_T (by first | with_reducible rfl | decide) ?_
         | refine bcase_F (by first | with_reducible rfl | decide) ?_
         | refine bcase_dec (fun _ => ?_) (fun _ => ?_)
         | refine bcase_not ?_
         | refine bcase_intro (fun _ => ?_) (fun _ => ?_)
         | refine ⟨(by with_reducible rfl), ?_⟩
         | refine ⟨congrArg vi ?_, ?_⟩
         | refine ⟨congrArg vb ?_, ?_⟩
         | refine ⟨rfl, ?_⟩
         | refine ⟨(by kernel_rfl : drawOK _ = true), ?_⟩
         | refine Or.inl ?_
         | refine ⟨⟨congrArg (T.int _) ?_, rfl⟩, ?_⟩
         | refine ⟨⟨congrArg T.bool ?_, rfl⟩, ?_⟩
         | refine ⟨⟨rfl, Nat.le_of_ble_eq_true rfl⟩, ?_⟩
         | refine ⟨⟨rfl, rfl⟩, ?_⟩
         | refine ⟨⟨rfl, (by decide)⟩, ?_⟩
         | refine ⟨⟨rfl, ?_⟩, ?_⟩
         | refine ⟨Or.inr rfl, ?_⟩
         | refine ⟨Or.inl rfl, ?_⟩
         | refine ⟨⟨⟨rfl, rfl, rfl⟩, ?_⟩, ?_⟩
         | refine ⟨_, _, rfl, row_get _ _ arith, rfl, ?_⟩
         | refine ⟨Or.inr (by repeat (first | exact trivial | refine ⟨rfl, ?_⟩)), ?_⟩
         | refine ⟨(?_ : _ = ([] : List (List T))), ?_⟩
         | (have h9 := hs _ (List.getElem_mem (lt_map (by assumption))); refine ⟨true, fun _ => scalU _, lenU _, ⟨bnd, bnd⟩, ?_⟩)
         | refine ⟨⟨bnd, bnd⟩, ?_⟩
         | refine ⟨i + 1, ⟨arith, arith⟩, sub_at [(0, 3)] rfl rfl rfl ?_ ?_⟩
         | fail))
  all_goals first
    | (rw [map_take_succ _ _ (lt_map (by assumption))]; rfl)
    | (rw [take_all _ (ge_map (by assumption))])
    | (simp; done)
    | skip
end Go.Proofs.Ytdbgmncapignoaa
