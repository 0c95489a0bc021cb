/-
  Contracts of the statements.
  Conditions: none.
-/
import Derived.Test.YtcoipmjboiegoaaFnPa
import Derived.Test.YtcoipmjboiegoaaFnI3
import Derived.Test.YtcoipmjboiegoaaFnJ
import Derived.Test.YtcoipmjboiegoaaFnH
namespace Go.Proofs.Ytcoipmjboiegoaa
set_option maxHeartbeats 4000000
set_option maxRecDepth 20000
open Go.Vm Go.RowKit
attribute [local irreducible] FnAt MutAt InAt JAt CurAt FnE CurE RegAt
attribute [local irreducible] pubS
theorem c_FnExactPublishAll (a0 : (List DServer)) (k0 : (okL DServer.ok) a0) : FnAt Try.prog 4 [.one (L DServer.e a0)] [.one (.s (.bool true))] := by
  have hr := pubs_sz a0
  have hr2 := szL_len DServer.sz a0
  have hc := cnt_DatabaseS (a0.map pubS)
  have hca0_0 := cnt_ServerS a0
  refine fn_of Try.func4 rfl (by kernel_rfl) rfl ?_
  all_goals repeat' (first
    | (with_reducible rfl)
    | (conv => whnf
       first
         | refine bcase_szS (fun _ => ?_) (fun _ _ => ?_)
         | refine bcase_F (by first | rfl | (rw [decide_eq_false_iff_not]; omega) | (refine bne_eq_false_iff_eq.2 ?_; omega)) ?_
         | (refine Or.inl ?_; (conv => whnf); first | refine ⟨_, c_sPublishAll a0 (bigSs_of (by omega)), ?_⟩ | refine ⟨_, c_PublishAll a0 (bigSs_of (by omega)), ?_⟩ | refine ⟨_, c_szServerS _ _ (by first | exact k0) (by omega), ?_⟩ | refine ⟨_, c_toServerS _ (by first | assumption | omega | (simp only [DDatabase.sz, DReceivedShare.sz, DServer.sz] at *; omega) | (simp only [List.length_map] at *; omega) | (simp only [List.length_map, DDatabase.sz, DReceivedShare.sz, DServer.sz] at *; omega)), ?_⟩ | refine ⟨_, c_eqDatabaseS _ (by first | assumption | omega | (simp only [DDatabase.sz, DReceivedShare.sz, DServer.sz] at *; omega) | (simp only [List.length_map] at *; omega) | (simp only [List.length_map, DDatabase.sz, DReceivedShare.sz, DServer.sz] at *; omega)), ?_⟩ | refine ⟨_, c_eqServerS _ (by first | assumption | omega | (simp only [DDatabase.sz, DReceivedShare.sz, DServer.sz] at *; omega) | (simp only [List.length_map] at *; omega) | (simp only [List.length_map, DDatabase.sz, DReceivedShare.sz, DServer.sz] at *; omega)), ?_⟩ | refine ⟨_, c_heldDatabaseS _ _ (by first | assumption | omega | (simp only [DDatabase.sz, DReceivedShare.sz, DServer.sz] at *; omega) | (simp only [List.length_map] at *; omega) | (simp only [List.length_map, DDatabase.sz, DReceivedShare.sz, DServer.sz] at *; omega)) (by first | assumption | omega | (simp only [DDatabase.sz, DReceivedShare.sz, DServer.sz] at *; omega) | (simp only [List.length_map] at *; omega) | (simp only [List.length_map, DDatabase.sz, DReceivedShare.sz, DServer.sz] at *; omega)), ?_⟩)
         | (refine Or.inr ⟨rfl, Or.inr (Or.inl ?_)⟩; (conv => whnf); first | refine ⟨rfl, _, _, c_markServerS _ _ (by first | assumption | omega | (simp only [DDatabase.sz, DReceivedShare.sz, DServer.sz] at *; omega) | (simp only [List.length_map] at *; omega) | (simp only [List.length_map, DDatabase.sz, DReceivedShare.sz, DServer.sz] at *; omega)) (by first | assumption | omega | (simp only [DDatabase.sz, DReceivedShare.sz, DServer.sz] at *; omega) | (simp only [List.length_map] at *; omega) | (simp only [List.length_map, DDatabase.sz, DReceivedShare.sz, DServer.sz] at *; omega)), ?_⟩ | refine ⟨rfl, _, _, c_markDatabaseS _ _ (by first | assumption | omega | (simp only [DDatabase.sz, DReceivedShare.sz, DServer.sz] at *; omega) | (simp only [List.length_map] at *; omega) | (simp only [List.length_map, DDatabase.sz, DReceivedShare.sz, DServer.sz] at *; omega)) (by first | assumption | omega | (simp only [DDatabase.sz, DReceivedShare.sz, DServer.sz] at *; omega) | (simp only [List.length_map] at *; omega) | (simp only [List.length_map, DDatabase.sz, DReceivedShare.sz, DServer.sz] at *; omega)), ?_⟩)
         | exact trivial
         | (with_reducible rfl)
         | exact (rfl : (0 : Int) = ((0 : Nat) : Int))
         | exact w64_nat arith
         | refine bcase_T (by first | with_reducible rfl | decide) ?_
         | refine bcase_F (by first | with_reducible rfl | decide) ?_
         | refine bcase_dec (fun _ => ?_) (fun _ => ?_)
         | refine bcase_not ?_
         | refine bcase_intro (fun _ => ?_) (fun _ => ?_)
         | refine ⟨(by with_reducible rfl), ?_⟩
         | refine ⟨congrArg vi ?_, ?_⟩
         | refine ⟨congrArg vb ?_, ?_⟩
         | refine ⟨rfl, ?_⟩
         | refine ⟨(by kernel_rfl : drawOK _ = true), ?_⟩
         | refine Or.inl ?_
         | refine ⟨⟨congrArg (T.int _) ?_, rfl⟩, ?_⟩
         | refine ⟨⟨congrArg T.bool ?_, rfl⟩, ?_⟩
         | refine ⟨⟨rfl, Nat.le_of_ble_eq_true rfl⟩, ?_⟩
         | refine ⟨⟨rfl, rfl⟩, ?_⟩
         | refine ⟨⟨rfl, (by decide)⟩, ?_⟩
         | refine ⟨⟨rfl, ?_⟩, ?_⟩
         | refine ⟨Or.inr rfl, ?_⟩
         | refine ⟨Or.inl rfl, ?_⟩
         | refine ⟨⟨⟨rfl, rfl, rfl⟩, ?_⟩, ?_⟩
         | refine ⟨_, _, rfl, row_get _ _ arith, rfl, ?_⟩
         | refine ⟨Or.inr (by repeat (first | exact trivial | refine ⟨rfl, ?_⟩)), ?_⟩
         | refine ⟨(?_ : _ = ([] : List (List T))), ?_⟩
         | fail))
  all_goals (first | rfl | (simp_all; done))
end Go.Proofs.Ytcoipmjboiegoaa
