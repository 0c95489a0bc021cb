/-
  'laws.FnExactNewArchive' returns true for every input, and its arguments read behind the call as before.
  Conditions: none.
-/
import Derived.Test.YtkjheelgilffiaaRows
import Derived.WalkKit
import Derived.ProofKit
import Derived.Test.YtkjheelgilffiaaFnC
namespace Go.Proofs.Ytkjheelgilffiaa.fnExactNewArchive
open Go.Vm Go.ChangeShapes Go.WideShapes Go.ChangeAt Go.RowKit

theorem own : ownKnob Try.prog.godebug = none := by kernel_rfl

theorem lifted (os : Os) (started : os.Started) (H : Type) (enc : TypeId × Value → H) :
    ReturnsInHanded {} Try.checked os 14 .any (Rows.fnExactNewArchiveSpec.pre6 enc Try.prog Try.f14 Rows.fnExactNewArchiveRow.domain false) (Rows.fnExactNewArchiveSpec.post enc Try.prog Try.f14 false true false false) := by
  refine returnsInHanded_of_change (C := Try.checked) own started (by kernel_rfl) Try.func14
    (ChangeSpec.witness6 (enc := enc) (C := Try.checked) false ⟨#[], #[.int .i64 0], []⟩ 8 (by kernel_rfl) (by kernel_rfl) (by kernel_rfl) (by kernel_rfl)) ?_
  intro W base args ds gs before hval0 hW _ _
  have hval : ∀ (j : Nat) t v, Try.f14.params[j]? = some t → args[j]? = some v → Value.okWide Try.prog W .any base t v := hval0
  have hW' := hW
  obtain ⟨p, q, hA0, _, _, _, _⟩ := hW
  have hA : DataW.TrodAll enc Try.prog W 0 (fun _ => true) true Try.f14.params.toList args.toList ds p := hA0
  rw [Try.params14] at hA hval
  obtain ⟨v0, vs0, d0, ds0, p0, q0, hargs, rfl, -, h0, r0⟩ := trodAll_cons hA
  obtain ⟨rfl, rfl, -⟩ := trodAll_nil r0
  obtain rfl : args = #[v0] := by cases args; simp_all
  obtain ⟨a0, F0, k0, e0⟩ := arg_one (g := fun a0 => I a0) (by rw [Try.underlying3]; intro _ h; cases h) (by rw [Try.underlying3]; intro _ _ h; cases h) (fun _ => rfl) op3 (hval 0 3 v0 rfl rfl) h0
  exact law_close (by kernel_rfl) (by kernel_rfl) rfl rfl Try.underlying4 rfl hW' ⟨[.one (I a0)], ⟨_, _, F0, rfl, e0, rfl⟩, c_FnExactNewArchive a0 k0⟩

theorem over : Rows.fnExactNewArchiveRow.holds Try.pinned (OpenSpec.ofChange Rows.fnExactNewArchiveSpec) :=
  OpenClaim.holds_of_wide 14 Try.f14 rfl rfl rfl rfl rfl rfl rfl ⟨rfl, rfl, rfl, rfl, rfl⟩ rfl rfl rfl rfl rfl (by kernel_rfl) Try.func14 (by kernel_rfl)
    (of_decide_eq_true (by kernel_rfl)) (by unfold Func.isWrapper; first | (rw [if_pos (by decide +kernel)]; kernel_rfl) | (rw [if_neg (by decide +kernel)]; exact ⟨rfl, rfl⟩))
    (fun os started H enc _ => lifted os started H enc)

/-- The statement. -/
theorem proved : Rows.FnExactNewArchiveSaid := over
#print axioms proved
end Go.Proofs.Ytkjheelgilffiaa.fnExactNewArchive
