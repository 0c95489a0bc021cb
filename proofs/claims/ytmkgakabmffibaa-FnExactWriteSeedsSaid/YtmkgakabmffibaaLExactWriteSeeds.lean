/-
  'laws.FnExactWriteSeeds' returns true for every input, and its arguments read behind the call as before.
  Conditions: none.
-/
import Derived.Test.YtmkgakabmffibaaRows
import Derived.WalkKit
import Derived.ProofKit
import Derived.Test.YtmkgakabmffibaaFnWsL
namespace Go.Proofs.Ytmkgakabmffibaa.fnExactWriteSeeds
set_option maxRecDepth 20000
open Go.Vm Go.ChangeShapes Go.WideShapes Go.ChangeAt Go.RowKit

theorem own : ownKnob Try.prog.godebug = none := by kernel_rfl

theorem lifted (os : Os) (started : os.Started) (H : Type) (enc : TypeId × Value → H) :
    ReturnsInHanded {} Try.checked os 8 .any (Rows.fnExactWriteSeedsSpec.pre6 enc Try.prog Try.f8 Rows.fnExactWriteSeedsRow.domain false) (Rows.fnExactWriteSeedsSpec.post enc Try.prog Try.f8 false true false false) := by
  refine returnsInHanded_of_change (C := Try.checked) own started (by kernel_rfl) Try.func8
    (ChangeSpec.witness6 (enc := enc) (C := Try.checked) false ⟨#[], #[.agg #[.int .i64 0, .slice none 0 0, .slice none 0 0, .int .i64 0, .slice none 0 0, .int .i64 0, .int .i64 0, .int .i64 0, .slice none 0 0, .int .i64 0], .int .i64 0], []⟩ 8 (by kernel_rfl) (by kernel_rfl) (by kernel_rfl) (by kernel_rfl)) ?_
  intro W base args ds gs before hval0 hW _ _
  have hval : ∀ (j : Nat) t v, Try.f8.params[j]? = some t → args[j]? = some v → Value.okWide Try.prog W .any base t v := hval0
  have hW' := hW
  obtain ⟨p, q, hA0, _, _, _, _⟩ := hW
  have hA : DataW.TrodAll enc Try.prog W 0 (fun _ => true) true Try.f8.params.toList args.toList ds p := hA0
  rw [Try.params8] at hA hval
  obtain ⟨v0, vs0, d0, ds0, p0, q0, hargs, rfl, -, h0, r0⟩ := trodAll_cons hA
  obtain ⟨v1, vs1, d1, ds1, p1, q1, rfl, rfl, -, h1, r1⟩ := trodAll_cons r0
  obtain ⟨rfl, rfl, -⟩ := trodAll_nil r1
  obtain rfl : args = #[v0, v1] := by cases args; simp_all
  obtain ⟨a0, F0, k0, e0⟩ := arg_agg Try.underlying69 op69 (hval 0 69 v0 rfl rfl) h0
  obtain ⟨a1, F1, k1, e1⟩ := arg_one (g := fun a1 => I a1) (by rw [Try.underlying3]; intro _ h; cases h) (by rw [Try.underlying3]; intro _ _ h; cases h) (fun _ => rfl) op3 (hval 1 3 v1 rfl rfl) h1
  exact law_close (by kernel_rfl) (by kernel_rfl) rfl rfl Try.underlying4 rfl hW' ⟨[.agg (DWorld.e a0), .one (I a1)], ⟨_, _, F0, rfl, e0, ⟨_, _, F1, rfl, e1, rfl⟩⟩, c_FnExactWriteSeeds a0 a1 k0 k1⟩

theorem over : Rows.fnExactWriteSeedsRow.holds Try.pinned (OpenSpec.ofChange Rows.fnExactWriteSeedsSpec) :=
  OpenClaim.holds_of_wide 8 Try.f8 rfl rfl rfl rfl rfl rfl rfl ⟨rfl, rfl, rfl, rfl, rfl⟩ rfl rfl rfl rfl rfl (by kernel_rfl) Try.func8 (by kernel_rfl)
    (of_decide_eq_true (by kernel_rfl)) (by unfold Func.isWrapper; first | (rw [if_pos (by decide +kernel)]; kernel_rfl) | (rw [if_neg (by decide +kernel)]; exact ⟨rfl, rfl⟩))
    (fun os started H enc _ => lifted os started H enc)

/-- The statement. -/
theorem proved : Rows.FnExactWriteSeedsSaid := over
#print axioms proved
end Go.Proofs.Ytmkgakabmffibaa.fnExactWriteSeeds
