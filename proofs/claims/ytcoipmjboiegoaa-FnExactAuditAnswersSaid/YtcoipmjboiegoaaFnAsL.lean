/-
  Contracts of the statements.
  Conditions: none.
-/
import Derived.Test.YtcoipmjboiegoaaFnAs
import Derived.Test.YtcoipmjboiegoaaFnI3
import Derived.Test.YtcoipmjboiegoaaFnJ
import Derived.Test.YtcoipmjboiegoaaFnH
namespace Go.Proofs.Ytcoipmjboiegoaa
set_option maxHeartbeats 4000000
set_option maxRecDepth 20000
open Go.Vm Go.RowKit
attribute [local irreducible] FnAt MutAt InAt JAt CurAt FnE CurE RegAt

theorem c_FnExactAuditAnswers (a0 : Int) (a1 : DDatabase) (a2 : (List DSignedAnswer)) (k0 : okI a0) (k1 : DDatabase.ok a1) (k2 : (okL DSignedAnswer.ok) a2) : FnAt Try.prog 6 [.one (I a0), .agg (DDatabase.e a1), .one (L DSignedAnswer.e a2)] [.one (.s (.bool true))] := by
  have hr := auS_len (m := a0) (d := a1) (l := a2) a2.length
  have hr2 := szL_len DSignedAnswer.sz a2
  have hc := cnt_IntS (auS a0 a1 a2 a2.length)
  have hca1_0 := cnt_ByteSS a1.Rows
  have hca2_0 := cnt_SignedAnswerS a2
  refine fn_of Try.func6 rfl (by kernel_rfl) rfl ?_
  all_goals repeat' (first
    | (with_reducible rfl)
    | (conv => whnf
       first
         | refine bcase_szS (fun _ => ?_) (fun _ _ => ?_)
         | refine bcase_F (by first | rfl | (rw [decide_eq_false_iff_not]; omega) | (refine bne_eq_false_iff_eq.2 ?_; omega)) ?_
         | (refine Or.inl ?_; (conv => whnf); first | refine ⟨_, c_sAuditAnswers a0 a1 a2 (bigB_of (by simp only [DDatabase.sz] at *; omega)) (bigAs_of (by omega)), ?_⟩ | refine ⟨_, c_AuditAnswersS a0 a1 a2 (bigB_of (by simp only [DDatabase.sz] at *; omega)) (bigAs_of (by omega)), ?_⟩ | refine ⟨_, c_szDatabase _ _ (by first | exact k0 | exact k1 | exact k2) (by omega), ?_⟩ | refine ⟨_, c_szSignedAnswerS _ _ (by first | exact k0 | exact k1 | exact k2) (by omega), ?_⟩ | refine ⟨_, c_toDatabase _ (by first | assumption | omega | (simp only [DDatabase.sz, DSignedAnswer.sz] at *; omega) | (simp only [List.length_map] at *; omega) | (simp only [List.length_map, DDatabase.sz, DSignedAnswer.sz] at *; omega)), ?_⟩ | refine ⟨_, c_toSignedAnswerS _ (by first | assumption | omega | (simp only [DDatabase.sz, DSignedAnswer.sz] at *; omega) | (simp only [List.length_map] at *; omega) | (simp only [List.length_map, DDatabase.sz, DSignedAnswer.sz] at *; omega)), ?_⟩ | refine ⟨_, c_eqIntS _ (by first | assumption | omega | (simp only [DDatabase.sz, DSignedAnswer.sz] at *; omega) | (simp only [List.length_map] at *; omega) | (simp only [List.length_map, DDatabase.sz, DSignedAnswer.sz] at *; omega)), ?_⟩ | refine ⟨_, c_eqDatabase _ (by first | assumption | omega | (simp only [DDatabase.sz, DSignedAnswer.sz] at *; omega) | (simp only [List.length_map] at *; omega) | (simp only [List.length_map, DDatabase.sz, DSignedAnswer.sz] at *; omega)), ?_⟩ | refine ⟨_, c_eqSignedAnswerS _ (by first | assumption | omega | (simp only [DDatabase.sz, DSignedAnswer.sz] at *; omega) | (simp only [List.length_map] at *; omega) | (simp only [List.length_map, DDatabase.sz, DSignedAnswer.sz] at *; omega)), ?_⟩ | refine ⟨_, c_heldIntS _ _ (by first | assumption | omega | (simp only [DDatabase.sz, DSignedAnswer.sz] at *; omega) | (simp only [List.length_map] at *; omega) | (simp only [List.length_map, DDatabase.sz, DSignedAnswer.sz] at *; omega)) (by first | assumption | omega | (simp only [DDatabase.sz, DSignedAnswer.sz] at *; omega) | (simp only [List.length_map] at *; omega) | (simp only [List.length_map, DDatabase.sz, DSignedAnswer.sz] at *; omega)), ?_⟩)
         | (refine Or.inr ⟨rfl, Or.inr (Or.inl ?_)⟩; (conv => whnf); first | refine ⟨rfl, _, _, c_markDatabase _ _ (by first | assumption | omega | (simp only [DDatabase.sz, DSignedAnswer.sz] at *; omega) | (simp only [List.length_map] at *; omega) | (simp only [List.length_map, DDatabase.sz, DSignedAnswer.sz] at *; omega)) (by first | assumption | omega | (simp only [DDatabase.sz, DSignedAnswer.sz] at *; omega) | (simp only [List.length_map] at *; omega) | (simp only [List.length_map, DDatabase.sz, DSignedAnswer.sz] at *; omega)), ?_⟩ | refine ⟨rfl, _, _, c_markSignedAnswerS _ _ (by first | assumption | omega | (simp only [DDatabase.sz, DSignedAnswer.sz] at *; omega) | (simp only [List.length_map] at *; omega) | (simp only [List.length_map, DDatabase.sz, DSignedAnswer.sz] at *; omega)) (by first | assumption | omega | (simp only [DDatabase.sz, DSignedAnswer.sz] at *; omega) | (simp only [List.length_map] at *; omega) | (simp only [List.length_map, DDatabase.sz, DSignedAnswer.sz] at *; omega)), ?_⟩ | refine ⟨rfl, _, _, c_markIntS _ _ (by first | assumption | omega | (simp only [DDatabase.sz, DSignedAnswer.sz] at *; omega) | (simp only [List.length_map] at *; omega) | (simp only [List.length_map, DDatabase.sz, DSignedAnswer.sz] at *; omega)) (by first | assumption | omega | (simp only [DDatabase.sz, DSignedAnswer.sz] at *; omega) | (simp only [List.length_map] at *; omega) | (simp only [List.length_map, DDatabase.sz, DSignedAnswer.sz] at *; omega)), ?_⟩)
         | exact trivial
         | (with_reducible rfl)
         | exact (rfl : (0 : Int) = ((0 : Nat) : Int))
         | exact w64_nat arith
         | refine bcase_T (by first | with_reducible rfl | decide) ?_
         | refine bcase_F (by first | with_reducible rfl | decide) ?_
         | refine bcase_dec (fun _ => ?_) (fun _ => ?_)
         | refine bcase_not ?_
         | refine bcase_intro (fun _ => ?_) (fun _ => ?_)
         | refine ⟨(by with_reducible rfl), ?_⟩
         | refine ⟨congrArg vi ?_, ?_⟩
         | refine ⟨congrArg vb ?_, ?_⟩
         | refine ⟨rfl, ?_⟩
         | refine ⟨(by kernel_rfl : drawOK _ = true), ?_⟩
         | refine Or.inl ?_
         | refine ⟨⟨congrArg (T.int _) ?_, rfl⟩, ?_⟩
         | refine ⟨⟨congrArg T.bool ?_, rfl⟩, ?_⟩
         | refine ⟨⟨rfl, Nat.le_of_ble_eq_true rfl⟩, ?_⟩
         | refine ⟨⟨rfl, rfl⟩, ?_⟩
         | refine ⟨⟨rfl, (by decide)⟩, ?_⟩
         | refine ⟨⟨rfl, ?_⟩, ?_⟩
         | refine ⟨Or.inr rfl, ?_⟩
         | refine ⟨Or.inl rfl, ?_⟩
         | refine ⟨⟨⟨rfl, rfl, rfl⟩, ?_⟩, ?_⟩
         | refine ⟨_, _, rfl, row_get _ _ arith, rfl, ?_⟩
         | refine ⟨Or.inr (by repeat (first | exact trivial | refine ⟨rfl, ?_⟩)), ?_⟩
         | refine ⟨(?_ : _ = ([] : List (List T))), ?_⟩
         | fail))
  all_goals (first | rfl | (simp_all; done))
end Go.Proofs.Ytcoipmjboiegoaa
