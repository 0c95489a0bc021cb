/-
  'laws.FnExactPrivateRead' returns true for every input, and its arguments read behind the call as before.
  Conditions: none.
-/
import Derived.Test.YtmaamiapipngaaaGreatRows
import Derived.WalkKit
import Derived.ProofKit
import Derived.Test.YtmaamiapipngaaaGreatFnUeL
namespace Go.Proofs.YtmaamiapipngaaaGreat.fnExactPrivateRead
set_option maxRecDepth 20000
open Go.Vm Go.ChangeShapes Go.WideShapes Go.ChangeAt Go.RowKit

theorem own : ownKnob Tryz.prog.godebug = none := by kernel_rfl

theorem lifted (os : Os) (started : os.Started) (H : Type) (enc : TypeId × Value → H) :
    ReturnsInHanded {} Tryz.checked os 3 .any (Rows.fnExactPrivateReadSpec.pre6 enc Tryz.prog Tryz.f3 Rows.fnExactPrivateReadRow.domain false) (Rows.fnExactPrivateReadSpec.post enc Tryz.prog Tryz.f3 false true false false) := by
  refine returnsInHanded_of_change (C := Tryz.checked) own started (by kernel_rfl) Tryz.func3
    (ChangeSpec.witness6 (enc := enc) (C := Tryz.checked) false ⟨#[], #[.agg #[.int .i64 0, .slice none 0 0, .slice none 0 0, .int .i64 0, .slice none 0 0, .int .i64 0, .int .i64 0, .int .i64 0, .slice none 0 0, .int .i64 0], .int .i64 0, .int .i64 0, .int .i64 0], []⟩ 8 (by kernel_rfl) (by kernel_rfl) (by kernel_rfl) (by kernel_rfl)) ?_
  intro W base args ds gs before hval0 hW _ _
  have hval : ∀ (j : Nat) t v, Tryz.f3.params[j]? = some t → args[j]? = some v → Value.okWide Tryz.prog W .any base t v := hval0
  have hW' := hW
  obtain ⟨p, q, hA0, _, _, _, _⟩ := hW
  have hA : DataW.TrodAll enc Tryz.prog W 0 (fun _ => true) true Tryz.f3.params.toList args.toList ds p := hA0
  rw [Tryz.params3] at hA hval
  obtain ⟨v0, vs0, d0, ds0, p0, q0, hargs, rfl, -, h0, r0⟩ := trodAll_cons hA
  obtain ⟨v1, vs1, d1, ds1, p1, q1, rfl, rfl, -, h1, r1⟩ := trodAll_cons r0
  obtain ⟨v2, vs2, d2, ds2, p2, q2, rfl, rfl, -, h2, r2⟩ := trodAll_cons r1
  obtain ⟨v3, vs3, d3, ds3, p3, q3, rfl, rfl, -, h3, r3⟩ := trodAll_cons r2
  obtain ⟨rfl, rfl, -⟩ := trodAll_nil r3
  obtain rfl : args = #[v0, v1, v2, v3] := by cases args; simp_all
  obtain ⟨a0, F0, k0, e0⟩ := arg_agg Tryz.underlying29 op29 (hval 0 29 v0 rfl rfl) h0
  obtain ⟨a1, F1, k1, e1⟩ := arg_one (g := fun a1 => I a1) (by rw [Tryz.underlying3]; intro _ h; cases h) (by rw [Tryz.underlying3]; intro _ _ h; cases h) (fun _ => rfl) op3 (hval 1 3 v1 rfl rfl) h1
  obtain ⟨a2, F2, k2, e2⟩ := arg_one (g := fun a2 => I a2) (by rw [Tryz.underlying3]; intro _ h; cases h) (by rw [Tryz.underlying3]; intro _ _ h; cases h) (fun _ => rfl) op3 (hval 2 3 v2 rfl rfl) h2
  obtain ⟨a3, F3, k3, e3⟩ := arg_one (g := fun a3 => I a3) (by rw [Tryz.underlying3]; intro _ h; cases h) (by rw [Tryz.underlying3]; intro _ _ h; cases h) (fun _ => rfl) op3 (hval 3 3 v3 rfl rfl) h3
  exact law_close (by kernel_rfl) (by kernel_rfl) rfl rfl Tryz.underlying4 rfl hW' ⟨[.agg (DWorld.e a0), .one (I a1), .one (I a2), .one (I a3)], ⟨_, _, F0, rfl, e0, ⟨_, _, F1, rfl, e1, ⟨_, _, F2, rfl, e2, ⟨_, _, F3, rfl, e3, rfl⟩⟩⟩⟩, c_FnExactPrivateRead a0 a1 a2 a3 k0 k1 k2 k3⟩

theorem over : Rows.fnExactPrivateReadRow.holds Tryz.pinned (OpenSpec.ofChange Rows.fnExactPrivateReadSpec) :=
  OpenClaim.holds_of_wide 3 Tryz.f3 rfl rfl rfl rfl rfl rfl rfl ⟨rfl, rfl, rfl, rfl, rfl⟩ rfl rfl rfl rfl rfl (by kernel_rfl) Tryz.func3 (by kernel_rfl)
    (of_decide_eq_true (by kernel_rfl)) (by unfold Func.isWrapper; first | (rw [if_pos (by decide +kernel)]; kernel_rfl) | (rw [if_neg (by decide +kernel)]; exact ⟨rfl, rfl⟩))
    (fun os started H enc _ => lifted os started H enc)

/-- The statement. -/
theorem proved : Rows.FnExactPrivateReadSaid := over
#print axioms proved
end Go.Proofs.YtmaamiapipngaaaGreat.fnExactPrivateRead
