/-
  Contracts: sealed cells.
  Conditions: none.
-/
import Derived.Test.YtpipfobdfcnghaaFnN
import Derived.Test.YtpipfobdfcnghaaFnC
namespace Go.Proofs.Ytpipfobdfcnghaa
set_option maxHeartbeats 4000000
set_option maxRecDepth 20000
open Go.Vm Go.RowKit
attribute [local irreducible] FnAt MutAt InAt JAt CurAt FnE CurE RegAt

def cellKey (k c : Int) : Int := orOne (khash k [67, c])
theorem bytes4_run (n : Int) : [[U8 (IntKind.u8.wrap n)], [U8 (IntKind.u8.wrap (n.fdiv (2 ^ (min (8 : Int).toNat IntKind.i64.bits))))], [U8 (IntKind.u8.wrap (n.fdiv (2 ^ (min (16 : Int).toNat IntKind.i64.bits))))], [U8 (IntKind.u8.wrap (n.fdiv (2 ^ (min (24 : Int).toNat IntKind.i64.bits))))]] = (bytes4 n).map eU := by
  have e1 : n.fdiv (2 ^ (min (8 : Int).toNat IntKind.i64.bits)) = n / 256 := by show n.fdiv 256 = _; rw [Int.fdiv_eq_ediv_of_nonneg _ (by decide)]
  have e2 : n.fdiv (2 ^ (min (16 : Int).toNat IntKind.i64.bits)) = n / 65536 := by show n.fdiv 65536 = _; rw [Int.fdiv_eq_ediv_of_nonneg _ (by decide)]
  have e3 : n.fdiv (2 ^ (min (24 : Int).toNat IntKind.i64.bits)) = n / 16777216 := by show n.fdiv 16777216 = _; rw [Int.fdiv_eq_ediv_of_nonneg _ (by decide)]
  rw [e1, e2, e3, u8_wrap, u8_wrap, u8_wrap, u8_wrap]
  rfl
theorem bytes4_len (n : Int) : (bytes4 n).length = 4 := rfl
attribute [local irreducible] bytes4 Vm.byteOf
theorem c_orOne (n : Int) : FnAt Try.prog 59 [.one (I n)] [.one (.s (I (orOne n)))] := by
  refine fn_of Try.func59 rfl (by kernel_rfl) rfl ?_
  all_goals repeat' (first | (with_reducible rfl) | ((conv => whnf); first | exact trivial | (with_reducible rfl) | exact (rfl : (0 : Int) = ((0 : Nat) : Int)) | exact w64_nat arith | refine bcase_T (by first | with_reducible rfl | decide) ?_ | refine bcase_F (by first | with_reducible rfl | decide) ?_ | refine bcase_dec (fun _ => ?_) (fun _ => ?_) | refine bcase_not ?_ | refine bcase_intro (fun _ => ?_) (fun _ => ?_) | refine ⟨(by with_reducible rfl), ?_⟩ | refine ⟨congrArg vi ?_, ?_⟩ | refine ⟨congrArg vb ?_, ?_⟩ | refine ⟨rfl, ?_⟩ | refine ⟨(by kernel_rfl : drawOK _ = true), ?_⟩ | refine Or.inl ?_ | refine ⟨⟨congrArg (T.int _) ?_, rfl⟩, ?_⟩ | refine ⟨⟨congrArg T.bool ?_, rfl⟩, ?_⟩ | refine ⟨⟨rfl, Nat.le_of_ble_eq_true rfl⟩, ?_⟩ | refine ⟨⟨rfl, rfl⟩, ?_⟩ | refine ⟨⟨rfl, (by decide)⟩, ?_⟩ | refine ⟨⟨rfl, ?_⟩, ?_⟩ | refine ⟨Or.inr rfl, ?_⟩ | refine ⟨Or.inl rfl, ?_⟩ | refine ⟨⟨⟨rfl, rfl, rfl⟩, ?_⟩, ?_⟩ | refine ⟨_, _, rfl, row_get _ _ arith, rfl, ?_⟩ | refine ⟨Or.inr (by repeat (first | exact trivial | refine ⟨rfl, ?_⟩)), ?_⟩ | refine ⟨(?_ : _ = ([] : List (List T))), ?_⟩ | fail))
  all_goals (simp_all [orOne])
theorem c_sMax1 (n : Int) (h : 0 ≤ n) : FnAt Try.prog 18 [.one (I 1), .one (I n)] [.one (.s (I (orOne n)))] := by
  refine fn_of Try.func18 rfl (by kernel_rfl) rfl ?_
  all_goals repeat' (first | (with_reducible rfl) | ((conv => whnf); first | exact trivial | (with_reducible rfl) | exact (rfl : (0 : Int) = ((0 : Nat) : Int)) | exact w64_nat arith | refine bcase_T (by first | with_reducible rfl | decide) ?_ | refine bcase_F (by first | with_reducible rfl | decide) ?_ | refine bcase_dec (fun _ => ?_) (fun _ => ?_) | refine bcase_not ?_ | refine bcase_intro (fun _ => ?_) (fun _ => ?_) | refine ⟨(by with_reducible rfl), ?_⟩ | refine ⟨congrArg vi ?_, ?_⟩ | refine ⟨congrArg vb ?_, ?_⟩ | refine ⟨rfl, ?_⟩ | refine ⟨(by kernel_rfl : drawOK _ = true), ?_⟩ | refine Or.inl ?_ | refine ⟨⟨congrArg (T.int _) ?_, rfl⟩, ?_⟩ | refine ⟨⟨congrArg T.bool ?_, rfl⟩, ?_⟩ | refine ⟨⟨rfl, Nat.le_of_ble_eq_true rfl⟩, ?_⟩ | refine ⟨⟨rfl, rfl⟩, ?_⟩ | refine ⟨⟨rfl, (by decide)⟩, ?_⟩ | refine ⟨⟨rfl, ?_⟩, ?_⟩ | refine ⟨Or.inr rfl, ?_⟩ | refine ⟨Or.inl rfl, ?_⟩ | refine ⟨⟨⟨rfl, rfl, rfl⟩, ?_⟩, ?_⟩ | refine ⟨_, _, rfl, row_get _ _ arith, rfl, ?_⟩ | refine ⟨Or.inr (by repeat (first | exact trivial | refine ⟨rfl, ?_⟩)), ?_⟩ | refine ⟨(?_ : _ = ([] : List (List T))), ?_⟩ | fail))
  all_goals (unfold orOne; split <;> omega)
end Go.Proofs.Ytpipfobdfcnghaa
