/-
  Contracts: ranges, sizes, transfers.
  Conditions: none.
-/
import Derived.Test.YtkjheelgilffiaaVmT
import Derived.Test.YtkjheelgilffiaaVmV
namespace Go.Proofs.Ytkjheelgilffiaa
open Go.Vm Go.RowKit

def inR (a b c : Int) : Bool := decide (b ≤ a) && decide (a ≤ c)
theorem inR_iff {a b c : Int} : inR a b c = true ↔ b ≤ a ∧ a ≤ c := by simp [inR]
theorem inR_not {a b c : Int} : inR a b c = false ↔ ¬ (b ≤ a ∧ a ≤ c) := by rw [← inR_iff]; simp
theorem c_l1In (a b c : Int) : FnAt Try.prog 52 [.one (I a), .one (I b), .one (I c)] [.one (.s (.bool (inR a b c)))] := by
  refine fn_of Try.func52 rfl (by kernel_rfl) rfl ?_
  all_goals repeat' (
    conv => whnf
    first
      | exact trivial
      | refine bcase_T rfl ?_
      | refine bcase_F rfl ?_
      | refine bcase_dec (fun _ => ?_) (fun _ => ?_)
      | refine bcase_not ?_
      | refine bcase_intro (fun _ => ?_) (fun _ => ?_)
      | refine ⟨rfl, ?_⟩
      | refine ⟨(by kernel_rfl : drawOK _ = true), ?_⟩
      | refine Or.inl ?_
      | refine ⟨congrArg vi ?_, ?_⟩
      | refine ⟨congrArg vb ?_, ?_⟩
      | refine ⟨⟨congrArg (T.int _) ?_, rfl⟩, ?_⟩
      | refine ⟨⟨congrArg T.bool ?_, rfl⟩, ?_⟩
      | refine ⟨⟨rfl, ?_⟩, ?_⟩
      | fail)
  all_goals (simp_all [inR] <;> omega)
theorem c_InRange (a b c : Int) : FnAt Try.prog 53 [.one (I a), .one (I b), .one (I c)] [.one (.s (.bool (inR a b c)))] := by
  refine fn_of Try.func53 rfl (by kernel_rfl) rfl ?_
  all_goals repeat' (
    conv => whnf
    first
      | exact trivial
      | refine bcase_T rfl ?_
      | refine bcase_F rfl ?_
      | refine bcase_dec (fun _ => ?_) (fun _ => ?_)
      | refine bcase_not ?_
      | refine bcase_intro (fun _ => ?_) (fun _ => ?_)
      | refine ⟨rfl, ?_⟩
      | refine ⟨(by kernel_rfl : drawOK _ = true), ?_⟩
      | refine Or.inl ?_
      | refine ⟨congrArg vi ?_, ?_⟩
      | refine ⟨congrArg vb ?_, ?_⟩
      | refine ⟨⟨congrArg (T.int _) ?_, rfl⟩, ?_⟩
      | refine ⟨⟨congrArg T.bool ?_, rfl⟩, ?_⟩
      | refine ⟨⟨rfl, ?_⟩, ?_⟩
      | fail)
  all_goals (simp_all [inR] <;> omega)
def shareSize (a : Int) : Int := if 1 ≤ a ∧ a ≤ 64 then 24 * a else 0
theorem c_sShareSize (a : Int) : FnAt Try.prog 15 [.one (I a)] [.one (.s (I (shareSize a)))] := by
  refine fn_of Try.func15 rfl (by kernel_rfl) rfl ?_
  all_goals repeat' (
    conv => whnf
    first
      | exact trivial
      | refine bcase_T rfl ?_
      | refine bcase_F rfl ?_
      | refine bcase_dec (fun _ => ?_) (fun _ => ?_)
      | refine bcase_not ?_
      | refine bcase_intro (fun _ => ?_) (fun _ => ?_)
      | refine ⟨rfl, ?_⟩
      | refine ⟨(by kernel_rfl : drawOK _ = true), ?_⟩
      | refine Or.inl ?_
      | refine ⟨congrArg vi ?_, ?_⟩
      | refine ⟨congrArg vb ?_, ?_⟩
      | refine ⟨⟨congrArg (T.int _) ?_, rfl⟩, ?_⟩
      | refine ⟨⟨congrArg T.bool ?_, rfl⟩, ?_⟩
      | refine ⟨⟨rfl, ?_⟩, ?_⟩
      | refine ⟨_, c_l1In _ _ _, ?_⟩
      | fail)
  all_goals simp only [inR_iff, inR_not] at *
  · rw [shareSize, if_pos (by omega), w64_ok (by omega) (by omega)]; omega
  · rw [shareSize, if_neg (by omega)]
theorem c_ShareSize (a : Int) : FnAt Try.prog 16 [.one (I a)] [.one (.s (I (shareSize a)))] := by
  refine fn_of Try.func16 rfl (by kernel_rfl) rfl ?_
  all_goals repeat' (
    conv => whnf
    first
      | exact trivial
      | refine bcase_T rfl ?_
      | refine bcase_F rfl ?_
      | refine bcase_dec (fun _ => ?_) (fun _ => ?_)
      | refine bcase_not ?_
      | refine bcase_intro (fun _ => ?_) (fun _ => ?_)
      | refine ⟨rfl, ?_⟩
      | refine ⟨(by kernel_rfl : drawOK _ = true), ?_⟩
      | refine Or.inl ?_
      | refine ⟨congrArg vi ?_, ?_⟩
      | refine ⟨congrArg vb ?_, ?_⟩
      | refine ⟨⟨congrArg (T.int _) ?_, rfl⟩, ?_⟩
      | refine ⟨⟨congrArg T.bool ?_, rfl⟩, ?_⟩
      | refine ⟨⟨rfl, ?_⟩, ?_⟩
      | refine ⟨_, c_InRange _ _ _, ?_⟩
      | fail)
  all_goals simp only [inR_iff, inR_not] at *
  · rw [shareSize, if_pos (by omega), w64_ok (by omega) (by omega)]; omega
  · rw [shareSize, if_neg (by omega)]
theorem c_FnExactShareSize (a0 : Int) (_ : okI a0) : FnAt Try.prog 3 [.one (I a0)] [.one (.s (.bool true))] := by
  refine fn_of Try.func3 rfl (by kernel_rfl) rfl ?_
  all_goals repeat' (
    conv => whnf
    first
      | exact trivial
      | refine bcase_T rfl ?_
      | refine bcase_F rfl ?_
      | refine bcase_dec (fun _ => ?_) (fun _ => ?_)
      | refine bcase_not ?_
      | refine bcase_intro (fun _ => ?_) (fun _ => ?_)
      | refine ⟨rfl, ?_⟩
      | refine ⟨(by kernel_rfl : drawOK _ = true), ?_⟩
      | refine Or.inl ?_
      | refine ⟨congrArg vi ?_, ?_⟩
      | refine ⟨congrArg vb ?_, ?_⟩
      | refine ⟨⟨congrArg (T.int _) ?_, rfl⟩, ?_⟩
      | refine ⟨⟨congrArg T.bool ?_, rfl⟩, ?_⟩
      | refine ⟨⟨rfl, ?_⟩, ?_⟩
      | refine ⟨_, c_sShareSize _, ?_⟩
      | refine ⟨_, c_ShareSize _, ?_⟩
      | fail)
  all_goals simp_all
abbrev Tr := Int × Int × Int
def tr (x : Tr) : List T := [I x.1, I x.2.1, I x.2.2]
def total (xs : List Tr) : Int := xs.foldl (fun a x => w64 (a + x.2.2)) 0
theorem c_sTotal (xs : List Tr) (hx : xs.length ≤ 1048576) : FnAt Try.prog 20 [.one (.lst (xs.map tr))] [.one (.s (I (total xs)))] := by
  refine fn_of Try.func20 rfl (by kernel_rfl) rfl ?_
  all_goals repeat' (
    conv => whnf
    first
      | exact trivial
      | refine bcase_T rfl ?_
      | refine bcase_F rfl ?_
      | refine bcase_dec (fun _ => ?_) (fun _ => ?_)
      | refine bcase_not ?_
      | refine bcase_intro (fun _ => ?_) (fun _ => ?_)
      | refine ⟨rfl, ?_⟩
      | refine ⟨(by kernel_rfl : drawOK _ = true), ?_⟩
      | refine Or.inl ?_
      | refine ⟨congrArg vi ?_, ?_⟩
      | refine ⟨congrArg vb ?_, ?_⟩
      | refine ⟨⟨congrArg (T.int _) ?_, rfl⟩, ?_⟩
      | refine ⟨⟨congrArg T.bool ?_, rfl⟩, ?_⟩
      | refine ⟨⟨rfl, ?_⟩, ?_⟩
      | fail)
  conv => whnf
  refine ⟨Nat, fun i => i ≤ xs.length, fun i => ⟨[(0, vl (xs.map tr)), (3, vi (total (xs.take i))), (4, vi i)], [], 0⟩, fun i => xs.length - i, 0, Nat.zero_le _, ⟨[], rfl, rfl, rfl, ?_, ?_⟩, fun i (hi : i ≤ xs.length) => ?_⟩
  all_goals repeat' (
    conv => whnf
    first
      | exact trivial
      | refine bcase_T rfl ?_
      | refine bcase_F rfl ?_
      | refine bcase_dec (fun _ => ?_) (fun _ => ?_)
      | refine bcase_not ?_
      | refine bcase_intro (fun _ => ?_) (fun _ => ?_)
      | refine ⟨rfl, ?_⟩
      | refine ⟨(by kernel_rfl : drawOK _ = true), ?_⟩
      | refine Or.inl ?_
      | refine ⟨congrArg vi ?_, ?_⟩
      | refine ⟨congrArg vb ?_, ?_⟩
      | refine ⟨⟨congrArg (T.int _) ?_, rfl⟩, ?_⟩
      | refine ⟨⟨congrArg T.bool ?_, rfl⟩, ?_⟩
      | refine ⟨⟨rfl, ?_⟩, ?_⟩
      | refine ⟨_, _, rfl, row_get _ _ (by first | omega | (simp only [List.length_map, List.length_replicate] at *; omega)), rfl, ?_⟩
      | refine ⟨i + 1, ⟨(by first | omega | (simp only [List.length_map, List.length_replicate] at *; omega)), (by first | omega | (simp only [List.length_map, List.length_replicate] at *; omega))⟩, ⟨[], rfl, rfl, rfl, ?_, ?_⟩⟩
      | fail)
  · exact Eq.symm (foldl_take _ _ _ (by first | omega | (simp only [List.length_map, List.length_replicate] at *; omega)))
  · exact w64_nat (by first | omega | (simp only [List.length_map, List.length_replicate] at *; omega))
  · rw [take_all xs (by first | omega | (simp only [List.length_map, List.length_replicate] at *; omega))]
end Go.Proofs.Ytkjheelgilffiaa
