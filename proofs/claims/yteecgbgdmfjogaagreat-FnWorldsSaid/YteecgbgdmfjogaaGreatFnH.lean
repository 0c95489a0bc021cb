/-
  Contracts of the statements' own helpers, written by a program of ours by type.
  Conditions: none.
-/
import Derived.Test.YteecgbgdmfjogaaGreatVmY
import Derived.Test.YteecgbgdmfjogaaGreatVmAc
namespace Go.Proofs.YteecgbgdmfjogaaGreat
set_option maxHeartbeats 4000000
set_option maxRecDepth 20000
open Go.Vm Go.RowKit
attribute [local irreducible] FnAt MutAt InAt JAt CurAt FnE CurE RegAt

theorem szS_ub {n : Nat} {k M : Int} (h : k ≤ M) (hM : -1 ≤ M) : szS n k ≤ M := by unfold szS; split <;> omega
theorem szS_T {a b : Nat} {k : Int} (h : ¬ szS a k < 0) : szS (a + b) k = szS b (szS a k) := by
  rw [(szS_le h).2]; have := (szS_le h).1; unfold szS; split <;> split <;> omega
theorem szS_m1 {a : Nat} {k : Int} (h : szS a k < 0) : szS a k = -1 := by
  unfold szS at *; split at h <;> simp_all <;> omega
theorem szS_F {a b : Nat} {k : Int} (h : szS a k < 0) : szS (a + b) k = -1 := by
  unfold szS at *; split at h
  · rw [if_pos (by omega)]
  · omega
end Go.Proofs.YteecgbgdmfjogaaGreat
