/-
  'laws.FnWorlds' returns true for every input, and its arguments read behind the call as before.
  Conditions: none.
-/
import Derived.Test.YteecgbgdmfjogaaGreatRows
import Derived.WalkKit
import Derived.ProofKit
import Derived.Test.YteecgbgdmfjogaaGreatFnWh
namespace Go.Proofs.YteecgbgdmfjogaaGreat.fnWorlds
set_option maxRecDepth 20000
open Go.Vm Go.ChangeShapes Go.WideShapes Go.ChangeAt Go.RowKit

theorem own : ownKnob Tryz.prog.godebug = none := by kernel_rfl

theorem lifted (os : Os) (started : os.Started) (H : Type) (enc : TypeId × Value → H) :
    ReturnsInHanded {} Tryz.checked os 3 .any (Rows.fnWorldsSpec.pre6 enc Tryz.prog Tryz.f3 Rows.fnWorldsRow.domain false) (Rows.fnWorldsSpec.post enc Tryz.prog Tryz.f3 false true false false) := by
  refine returnsInHanded_of_change (C := Tryz.checked) own started (by kernel_rfl) Tryz.func3
    (ChangeSpec.witness6 (enc := enc) (C := Tryz.checked) false ⟨#[], #[.slice none 0 0], []⟩ 8 (by kernel_rfl) (by kernel_rfl) (by kernel_rfl) (by kernel_rfl)) ?_
  intro W base args ds gs before hval0 hW _ _
  have hval : ∀ (j : Nat) t v, Tryz.f3.params[j]? = some t → args[j]? = some v → Value.okWide Tryz.prog W .any base t v := hval0
  have hW' := hW
  obtain ⟨p, q, hA0, _, _, _, _⟩ := hW
  have hA : DataW.TrodAll enc Tryz.prog W 0 (fun _ => true) true Tryz.f3.params.toList args.toList ds p := hA0
  rw [Tryz.params3] at hA hval
  obtain ⟨v0, vs0, d0, ds0, p0, q0, hargs, rfl, -, h0, r0⟩ := trodAll_cons hA
  obtain ⟨rfl, rfl, -⟩ := trodAll_nil r0
  obtain rfl : args = #[v0] := by cases args; simp_all
  obtain ⟨a0, F0, k0, e0⟩ := arg_one (g := fun a0 => L eU a0) (by rw [Tryz.underlying22]; intro _ h; cases h) (by rw [Tryz.underlying22]; intro _ _ h; cases h) (fun _ => rfl) op22 (hval 0 22 v0 rfl rfl) h0
  exact law_close (by kernel_rfl) (by kernel_rfl) rfl rfl Tryz.underlying4 rfl hW' ⟨[.one (L eU a0)], ⟨_, _, F0, rfl, e0, rfl⟩, c_FnWorlds a0 k0.1⟩

theorem over : Rows.fnWorldsRow.holds Tryz.pinned (OpenSpec.ofChange Rows.fnWorldsSpec) :=
  OpenClaim.holds_of_wide 3 Tryz.f3 rfl rfl rfl rfl rfl rfl rfl ⟨rfl, rfl, rfl, rfl, rfl⟩ rfl rfl rfl rfl rfl (by kernel_rfl) Tryz.func3 (by kernel_rfl)
    (of_decide_eq_true (by kernel_rfl)) (by unfold Func.isWrapper; first | (rw [if_pos (by decide +kernel)]; kernel_rfl) | (rw [if_neg (by decide +kernel)]; exact ⟨rfl, rfl⟩))
    (fun os started H enc _ => lifted os started H enc)

/-- The statement. -/
theorem proved : Rows.FnWorldsSaid := over
#print axioms proved
end Go.Proofs.YteecgbgdmfjogaaGreat.fnWorlds
