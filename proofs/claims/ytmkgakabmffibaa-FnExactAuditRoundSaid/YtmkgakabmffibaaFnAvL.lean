/-
  Contracts of the statements.
  Conditions: none.
-/
import Derived.Test.YtmkgakabmffibaaFnAv
import Derived.Test.YtmkgakabmffibaaFnI
import Derived.Test.YtmkgakabmffibaaFnJ
namespace Go.Proofs.Ytmkgakabmffibaa
set_option maxHeartbeats 4000000
set_option maxRecDepth 20000
open Go.Vm Go.RowKit
attribute [local irreducible] FnAt MutAt InAt

theorem c_FnExactAuditServer (a0 : Int) (a1 : DServer) (a2 : DDatabase) (a3 : (List DReceipt)) (_k0 : okI a0) (k1 : DServer.ok a1) (k2 : DDatabase.ok a2) (k3 : (okL DReceipt.ok) a3) : FnAt Try.prog 5 [.one (I a0), .agg (DServer.e a1), .agg (DDatabase.e a2), .one (L DReceipt.e a3)] [.one (.s (.bool true))] := by
  refine fn_of Try.func5 rfl (by kernel_rfl) rfl ?_
  all_goals repeat' (first
    | (with_reducible rfl)
    | (conv => whnf
       first
         | refine bcase_szS (fun _ => ?_) (fun _ _ => ?_)
         | refine bcase_F (by first | rfl | (rw [decide_eq_false_iff_not]; omega) | (refine bne_eq_false_iff_eq.2 ?_; omega)) ?_
         | (refine Or.inl ?_; (conv => whnf); first | refine ⟨_, c_sAuditServer a0 a1 a2 a3 (bigT_of (by omega)) (bigB_of (by simp only [DDatabase.sz] at *; omega)) (by omega), ?_⟩ | refine ⟨_, c_AuditServer a0 a1 a2 a3 (bigT_of (by omega)) (bigB_of (by simp only [DDatabase.sz] at *; omega)) (by omega), ?_⟩ | refine ⟨_, c_szServer _ _ (by first | exact k0 | exact k1 | exact k2 | exact k3) (by omega), ?_⟩ | refine ⟨_, c_szDatabase _ _ (by first | exact k0 | exact k1 | exact k2 | exact k3) (by omega), ?_⟩ | refine ⟨_, c_szReceiptS _ _ (by first | exact k0 | exact k1 | exact k2 | exact k3) (by omega), ?_⟩ | refine ⟨_, c_toServer _ (by first | assumption | omega | (simp only [DDatabase.sz, DReceivedShare.sz, DServer.sz] at *; omega) | (simp only [List.length_map] at *; omega) | (simp only [List.length_map, DDatabase.sz, DReceivedShare.sz, DServer.sz] at *; omega)), ?_⟩ | refine ⟨_, c_toDatabase _ (by first | assumption | omega | (simp only [DDatabase.sz, DReceivedShare.sz, DServer.sz] at *; omega) | (simp only [List.length_map] at *; omega) | (simp only [List.length_map, DDatabase.sz, DReceivedShare.sz, DServer.sz] at *; omega)), ?_⟩ | refine ⟨_, c_toReceiptS _ (by first | assumption | omega | (simp only [DDatabase.sz, DReceivedShare.sz, DServer.sz] at *; omega) | (simp only [List.length_map] at *; omega) | (simp only [List.length_map, DDatabase.sz, DReceivedShare.sz, DServer.sz] at *; omega)), ?_⟩ | refine ⟨_, c_eqServer _ (by first | assumption | omega | (simp only [DDatabase.sz, DReceivedShare.sz, DServer.sz] at *; omega) | (simp only [List.length_map] at *; omega) | (simp only [List.length_map, DDatabase.sz, DReceivedShare.sz, DServer.sz] at *; omega)), ?_⟩ | refine ⟨_, c_eqDatabase _ (by first | assumption | omega | (simp only [DDatabase.sz, DReceivedShare.sz, DServer.sz] at *; omega) | (simp only [List.length_map] at *; omega) | (simp only [List.length_map, DDatabase.sz, DReceivedShare.sz, DServer.sz] at *; omega)), ?_⟩ | refine ⟨_, c_eqReceiptS _ (by first | assumption | omega | (simp only [DDatabase.sz, DReceivedShare.sz, DServer.sz] at *; omega) | (simp only [List.length_map] at *; omega) | (simp only [List.length_map, DDatabase.sz, DReceivedShare.sz, DServer.sz] at *; omega)), ?_⟩)
         | exact trivial
         | (with_reducible rfl)
         | exact (rfl : (0 : Int) = ((0 : Nat) : Int))
         | exact w64_nat arith
         | refine bcase_T (by first | with_reducible rfl | decide) ?_
         | refine bcase_F (by first | with_reducible rfl | decide) ?_
         | refine bcase_dec (fun _ => ?_) (fun _ => ?_)
         | refine bcase_not ?_
         | refine bcase_intro (fun _ => ?_) (fun _ => ?_)
         | refine ⟨(by with_reducible rfl), ?_⟩
         | refine ⟨congrArg vi ?_, ?_⟩
         | refine ⟨congrArg vb ?_, ?_⟩
         | refine ⟨rfl, ?_⟩
         | refine ⟨(by kernel_rfl : drawOK _ = true), ?_⟩
         | refine Or.inl ?_
         | refine ⟨⟨congrArg (T.int _) ?_, rfl⟩, ?_⟩
         | refine ⟨⟨congrArg T.bool ?_, rfl⟩, ?_⟩
         | refine ⟨⟨rfl, Nat.le_of_ble_eq_true rfl⟩, ?_⟩
         | refine ⟨⟨rfl, rfl⟩, ?_⟩
         | refine ⟨⟨rfl, (by decide)⟩, ?_⟩
         | refine ⟨⟨rfl, ?_⟩, ?_⟩
         | refine ⟨Or.inr rfl, ?_⟩
         | refine ⟨Or.inl rfl, ?_⟩
         | refine ⟨⟨⟨rfl, rfl, rfl⟩, ?_⟩, ?_⟩
         | refine ⟨_, _, rfl, row_get _ _ arith, rfl, ?_⟩
         | refine ⟨Or.inr (by repeat (first | exact trivial | refine ⟨rfl, ?_⟩)), ?_⟩
         | refine ⟨(?_ : _ = ([] : List (List T))), ?_⟩
         | fail))
  all_goals (first | rfl | (simp_all; done))
theorem c_FnExactAuditRound (a0 : Int) (a1 : (List DServer)) (a2 : (List DDatabase)) (a3 : (List DReceipt)) (_k0 : okI a0) (k1 : (okL DServer.ok) a1) (k2 : (okL DDatabase.ok) a2) (k3 : (okL DReceipt.ok) a3) : FnAt Try.prog 11 [.one (I a0), .one (L DServer.e a1), .one (L DDatabase.e a2), .one (L DReceipt.e a3)] [.one (.s (.bool true))] := by
  have hr := audits_len a0 a1 a2 a3 a1.length
  have hr2 := szL_len DServer.sz a1
  have hc := cnt_IntS (audits a0 a1 a2 a3 a1.length)
  have hca1_0 := cnt_ServerS a1
  have hca2_0 := cnt_DatabaseS a2
  have hca3_0 := cnt_ReceiptS a3
  refine fn_of Try.func11 rfl (by kernel_rfl) rfl ?_
  all_goals repeat' (first
    | (with_reducible rfl)
    | (conv => whnf
       first
         | refine bcase_szS (fun _ => ?_) (fun _ _ => ?_)
         | refine bcase_F (by first | rfl | (rw [decide_eq_false_iff_not]; omega) | (refine bne_eq_false_iff_eq.2 ?_; omega)) ?_
         | (refine Or.inl ?_; (conv => whnf); first | refine ⟨_, c_sAuditRound a0 a1 a2 a3 (bigTs_of (by omega)) (bigL_of (by omega)) (by omega), ?_⟩ | refine ⟨_, c_AuditRound a0 a1 a2 a3 (bigTs_of (by omega)) (bigL_of (by omega)) (by omega), ?_⟩ | refine ⟨_, c_szReceiptS _ _ (by first | exact k0 | exact k1 | exact k2 | exact k3) (by omega), ?_⟩ | refine ⟨_, c_toReceiptS _ (by first | assumption | omega | (simp only [DDatabase.sz, DReceivedShare.sz, DServer.sz] at *; omega) | (simp only [List.length_map] at *; omega) | (simp only [List.length_map, DDatabase.sz, DReceivedShare.sz, DServer.sz] at *; omega)), ?_⟩ | refine ⟨_, c_eqReceiptS _ (by first | assumption | omega | (simp only [DDatabase.sz, DReceivedShare.sz, DServer.sz] at *; omega) | (simp only [List.length_map] at *; omega) | (simp only [List.length_map, DDatabase.sz, DReceivedShare.sz, DServer.sz] at *; omega)), ?_⟩ | refine ⟨_, c_eqIntS _ (by first | assumption | omega | (simp only [DDatabase.sz, DReceivedShare.sz, DServer.sz] at *; omega) | (simp only [List.length_map] at *; omega) | (simp only [List.length_map, DDatabase.sz, DReceivedShare.sz, DServer.sz] at *; omega)), ?_⟩ | refine ⟨_, c_heldIntS _ _ (by first | assumption | omega | (simp only [DDatabase.sz, DReceivedShare.sz, DServer.sz] at *; omega) | (simp only [List.length_map] at *; omega) | (simp only [List.length_map, DDatabase.sz, DReceivedShare.sz, DServer.sz] at *; omega)) (by first | assumption | omega | (simp only [DDatabase.sz, DReceivedShare.sz, DServer.sz] at *; omega) | (simp only [List.length_map] at *; omega) | (simp only [List.length_map, DDatabase.sz, DReceivedShare.sz, DServer.sz] at *; omega)), ?_⟩ | refine ⟨_, c_szServerS _ _ (by first | exact k0 | exact k1 | exact k2 | exact k3) (by omega), ?_⟩ | refine ⟨_, c_szDatabaseS _ _ (by first | exact k0 | exact k1 | exact k2 | exact k3) (by omega), ?_⟩ | refine ⟨_, c_toServerS _ (by first | assumption | omega | (simp only [DDatabase.sz, DReceivedShare.sz, DServer.sz] at *; omega) | (simp only [List.length_map] at *; omega) | (simp only [List.length_map, DDatabase.sz, DReceivedShare.sz, DServer.sz] at *; omega)), ?_⟩ | refine ⟨_, c_toDatabaseS _ (by first | assumption | omega | (simp only [DDatabase.sz, DReceivedShare.sz, DServer.sz] at *; omega) | (simp only [List.length_map] at *; omega) | (simp only [List.length_map, DDatabase.sz, DReceivedShare.sz, DServer.sz] at *; omega)), ?_⟩ | refine ⟨_, c_eqServerS _ (by first | assumption | omega | (simp only [DDatabase.sz, DReceivedShare.sz, DServer.sz] at *; omega) | (simp only [List.length_map] at *; omega) | (simp only [List.length_map, DDatabase.sz, DReceivedShare.sz, DServer.sz] at *; omega)), ?_⟩ | refine ⟨_, c_eqDatabaseS _ (by first | assumption | omega | (simp only [DDatabase.sz, DReceivedShare.sz, DServer.sz] at *; omega) | (simp only [List.length_map] at *; omega) | (simp only [List.length_map, DDatabase.sz, DReceivedShare.sz, DServer.sz] at *; omega)), ?_⟩)
         | (refine Or.inr ⟨rfl, Or.inr ?_⟩; (conv => whnf); first | refine ⟨rfl, _, _, c_markIntS _ _ (by first | assumption | omega | (simp only [DDatabase.sz, DReceivedShare.sz, DServer.sz] at *; omega) | (simp only [List.length_map] at *; omega) | (simp only [List.length_map, DDatabase.sz, DReceivedShare.sz, DServer.sz] at *; omega)) (by first | assumption | omega | (simp only [DDatabase.sz, DReceivedShare.sz, DServer.sz] at *; omega) | (simp only [List.length_map] at *; omega) | (simp only [List.length_map, DDatabase.sz, DReceivedShare.sz, DServer.sz] at *; omega)), ?_⟩ | refine ⟨rfl, _, _, c_markServerS _ _ (by first | assumption | omega | (simp only [DDatabase.sz, DReceivedShare.sz, DServer.sz] at *; omega) | (simp only [List.length_map] at *; omega) | (simp only [List.length_map, DDatabase.sz, DReceivedShare.sz, DServer.sz] at *; omega)) (by first | assumption | omega | (simp only [DDatabase.sz, DReceivedShare.sz, DServer.sz] at *; omega) | (simp only [List.length_map] at *; omega) | (simp only [List.length_map, DDatabase.sz, DReceivedShare.sz, DServer.sz] at *; omega)), ?_⟩ | refine ⟨rfl, _, _, c_markDatabaseS _ _ (by first | assumption | omega | (simp only [DDatabase.sz, DReceivedShare.sz, DServer.sz] at *; omega) | (simp only [List.length_map] at *; omega) | (simp only [List.length_map, DDatabase.sz, DReceivedShare.sz, DServer.sz] at *; omega)) (by first | assumption | omega | (simp only [DDatabase.sz, DReceivedShare.sz, DServer.sz] at *; omega) | (simp only [List.length_map] at *; omega) | (simp only [List.length_map, DDatabase.sz, DReceivedShare.sz, DServer.sz] at *; omega)), ?_⟩ | refine ⟨rfl, _, _, c_markReceiptS _ _ (by first | assumption | omega | (simp only [DDatabase.sz, DReceivedShare.sz, DServer.sz] at *; omega) | (simp only [List.length_map] at *; omega) | (simp only [List.length_map, DDatabase.sz, DReceivedShare.sz, DServer.sz] at *; omega)) (by first | assumption | omega | (simp only [DDatabase.sz, DReceivedShare.sz, DServer.sz] at *; omega) | (simp only [List.length_map] at *; omega) | (simp only [List.length_map, DDatabase.sz, DReceivedShare.sz, DServer.sz] at *; omega)), ?_⟩)
         | exact trivial
         | (with_reducible rfl)
         | exact (rfl : (0 : Int) = ((0 : Nat) : Int))
         | exact w64_nat arith
         | refine bcase_T (by first | with_reducible rfl | decide) ?_
         | refine bcase_F (by first | with_reducible rfl | decide) ?_
         | refine bcase_dec (fun _ => ?_) (fun _ => ?_)
         | refine bcase_not ?_
         | refine bcase_intro (fun _ => ?_) (fun _ => ?_)
         | refine ⟨(by with_reducible rfl), ?_⟩
         | refine ⟨congrArg vi ?_, ?_⟩
         | refine ⟨congrArg vb ?_, ?_⟩
         | refine ⟨rfl, ?_⟩
         | refine ⟨(by kernel_rfl : drawOK _ = true), ?_⟩
         | refine Or.inl ?_
         | refine ⟨⟨congrArg (T.int _) ?_, rfl⟩, ?_⟩
         | refine ⟨⟨congrArg T.bool ?_, rfl⟩, ?_⟩
         | refine ⟨⟨rfl, Nat.le_of_ble_eq_true rfl⟩, ?_⟩
         | refine ⟨⟨rfl, rfl⟩, ?_⟩
         | refine ⟨⟨rfl, (by decide)⟩, ?_⟩
         | refine ⟨⟨rfl, ?_⟩, ?_⟩
         | refine ⟨Or.inr rfl, ?_⟩
         | refine ⟨Or.inl rfl, ?_⟩
         | refine ⟨⟨⟨rfl, rfl, rfl⟩, ?_⟩, ?_⟩
         | refine ⟨_, _, rfl, row_get _ _ arith, rfl, ?_⟩
         | refine ⟨Or.inr (by repeat (first | exact trivial | refine ⟨rfl, ?_⟩)), ?_⟩
         | refine ⟨(?_ : _ = ([] : List (List T))), ?_⟩
         | fail))
  all_goals (first | rfl | (simp_all; done))
end Go.Proofs.Ytmkgakabmffibaa
