/-
  'laws.FnExactAuditAnswers' returns true for every input, and its arguments read behind the call as before.
  Conditions: none.
-/
import Derived.Test.YtcoipmjboiegoaaRows
import Derived.WalkKit
import Derived.ProofKit
import Derived.Test.YtcoipmjboiegoaaFnAsL
namespace Go.Proofs.Ytcoipmjboiegoaa.fnExactAuditAnswers
set_option maxRecDepth 20000
open Go.Vm Go.ChangeShapes Go.WideShapes Go.ChangeAt Go.RowKit

theorem own : ownKnob Try.prog.godebug = none := by kernel_rfl

theorem lifted (os : Os) (started : os.Started) (H : Type) (enc : TypeId × Value → H) :
    ReturnsInHanded {} Try.checked os 6 .any (Rows.fnExactAuditAnswersSpec.pre6 enc Try.prog Try.f6 Rows.fnExactAuditAnswersRow.domain false) (Rows.fnExactAuditAnswersSpec.post enc Try.prog Try.f6 false true false false) := by
  refine returnsInHanded_of_change (C := Try.checked) own started (by kernel_rfl) Try.func6
    (ChangeSpec.witness6 (enc := enc) (C := Try.checked) false ⟨#[], #[.int .i64 0, .agg #[.slice none 0 0], .slice none 0 0], []⟩ 8 (by kernel_rfl) (by kernel_rfl) (by kernel_rfl) (by kernel_rfl)) ?_
  intro W base args ds gs before hval0 hW _ _
  have hval : ∀ (j : Nat) t v, Try.f6.params[j]? = some t → args[j]? = some v → Value.okWide Try.prog W .any base t v := hval0
  have hW' := hW
  obtain ⟨p, q, hA0, _, _, _, _⟩ := hW
  have hA : DataW.TrodAll enc Try.prog W 0 (fun _ => true) true Try.f6.params.toList args.toList ds p := hA0
  rw [Try.params6] at hA hval
  obtain ⟨v0, vs0, d0, ds0, p0, q0, hargs, rfl, -, h0, r0⟩ := trodAll_cons hA
  obtain ⟨v1, vs1, d1, ds1, p1, q1, rfl, rfl, -, h1, r1⟩ := trodAll_cons r0
  obtain ⟨v2, vs2, d2, ds2, p2, q2, rfl, rfl, -, h2, r2⟩ := trodAll_cons r1
  obtain ⟨rfl, rfl, -⟩ := trodAll_nil r2
  obtain rfl : args = #[v0, v1, v2] := by cases args; simp_all
  obtain ⟨a0, F0, k0, e0⟩ := arg_one (g := fun a0 => I a0) (by rw [Try.underlying3]; intro _ h; cases h) (by rw [Try.underlying3]; intro _ _ h; cases h) (fun _ => rfl) op3 (hval 0 3 v0 rfl rfl) h0
  obtain ⟨a1, F1, k1, e1⟩ := arg_agg Try.underlying67 op67 (hval 1 67 v1 rfl rfl) h1
  obtain ⟨a2, F2, k2, e2⟩ := arg_one (g := fun a2 => L DSignedAnswer.e a2) (by rw [Try.underlying68]; intro _ h; cases h) (by rw [Try.underlying68]; intro _ _ h; cases h) (fun _ => rfl) op68 (hval 2 68 v2 rfl rfl) h2
  exact law_close (by kernel_rfl) (by kernel_rfl) rfl rfl Try.underlying4 rfl hW' ⟨[.one (I a0), .agg (DDatabase.e a1), .one (L DSignedAnswer.e a2)], ⟨_, _, F0, rfl, e0, ⟨_, _, F1, rfl, e1, ⟨_, _, F2, rfl, e2, rfl⟩⟩⟩, c_FnExactAuditAnswers a0 a1 a2 k0 k1 k2⟩

theorem over : Rows.fnExactAuditAnswersRow.holds Try.pinned (OpenSpec.ofChange Rows.fnExactAuditAnswersSpec) :=
  OpenClaim.holds_of_wide 6 Try.f6 rfl rfl rfl rfl rfl rfl rfl ⟨rfl, rfl, rfl, rfl, rfl⟩ rfl rfl rfl rfl rfl (by kernel_rfl) Try.func6 (by kernel_rfl)
    (of_decide_eq_true (by kernel_rfl)) (by unfold Func.isWrapper; first | (rw [if_pos (by decide +kernel)]; kernel_rfl) | (rw [if_neg (by decide +kernel)]; exact ⟨rfl, rfl⟩))
    (fun os started H enc _ => lifted os started H enc)

/-- The statement. -/
theorem proved : Rows.FnExactAuditAnswersSaid := over
#print axioms proved
end Go.Proofs.Ytcoipmjboiegoaa.fnExactAuditAnswers
