/-
  Contracts of the statements.
  Conditions: none.
-/
import Derived.Test.YtdbgmncapignoaaGreatFnMt
import Derived.Test.YtdbgmncapignoaaGreatFnI3
import Derived.Test.YtdbgmncapignoaaGreatFnJ
namespace Go.Proofs.YtdbgmncapignoaaGreat
set_option maxHeartbeats 4000000
set_option maxRecDepth 20000
open Go.Vm Go.RowKit
attribute [local irreducible] FnAt MutAt InAt JAt CurAt

theorem c_FnExactWriteShares (a0 : DWorld) (a1 : Int) (k0 : DWorld.ok a0) (k1 : okI a1) : FnAt Tryz.prog 4 [.agg (DWorld.e a0), .one (I a1)] [.one (.s (.bool true))] := by
  have hr := sharesW_sz a0 a1
  have hr2 := wServ (w := a0)
  have hc := cnt_DatabaseS (sharesW a0 a1)
  have hca0_0 := cnt_ServerS a0.Servers
  have hca0_1 := cnt_DeviceS a0.Devices
  have hca0_2 := cnt_ArchivedRoundS a0.Archive.Rounds
  have hca0_3 := cnt_IntS a0.Replaced
  refine fn_of Tryz.func4 rfl (by kernel_rfl) rfl ?_
  all_goals repeat' (first
    | (with_reducible rfl)
    | (conv => whnf
       first
         | refine bcase_szS (fun _ => ?_) (fun _ _ => ?_)
         | refine bcase_F (by first | rfl | (rw [decide_eq_false_iff_not]; omega) | (refine bne_eq_false_iff_eq.2 ?_; omega)) ?_
         | (refine Or.inl ?_; (conv => whnf); first | refine ⟨_, c_sWriteShares a0 a1 (bigW_of (by omega)) (show okI a0.Rows from k0.1), ?_⟩ | refine ⟨_, c_WriteShares a0 a1 (bigW_of (by omega)), ?_⟩ | refine ⟨_, c_szWorld _ _ (by first | exact k0 | exact k1) (by omega), ?_⟩ | refine ⟨_, c_toWorld _ (by first | assumption | omega | (simp only [DArchive.sz, DArchivedRound.sz, DClient.sz, DDatabase.sz, DDevice.sz, DReceivedShare.sz, DServer.sz, DWorld.sz] at *; omega) | (simp only [List.length_map] at *; omega) | (simp only [List.length_map, DArchive.sz, DArchivedRound.sz, DClient.sz, DDatabase.sz, DDevice.sz, DReceivedShare.sz, DServer.sz, DWorld.sz] at *; omega)), ?_⟩ | refine ⟨_, c_eqWorld _ (by first | assumption | omega | (simp only [DArchive.sz, DArchivedRound.sz, DClient.sz, DDatabase.sz, DDevice.sz, DReceivedShare.sz, DServer.sz, DWorld.sz] at *; omega) | (simp only [List.length_map] at *; omega) | (simp only [List.length_map, DArchive.sz, DArchivedRound.sz, DClient.sz, DDatabase.sz, DDevice.sz, DReceivedShare.sz, DServer.sz, DWorld.sz] at *; omega)), ?_⟩ | refine ⟨_, c_eqDatabaseS _ (by first | assumption | omega | (simp only [DArchive.sz, DArchivedRound.sz, DClient.sz, DDatabase.sz, DDevice.sz, DReceivedShare.sz, DServer.sz, DWorld.sz] at *; omega) | (simp only [List.length_map] at *; omega) | (simp only [List.length_map, DArchive.sz, DArchivedRound.sz, DClient.sz, DDatabase.sz, DDevice.sz, DReceivedShare.sz, DServer.sz, DWorld.sz] at *; omega)), ?_⟩ | refine ⟨_, c_heldDatabaseS _ _ (by first | assumption | omega | (simp only [DArchive.sz, DArchivedRound.sz, DClient.sz, DDatabase.sz, DDevice.sz, DReceivedShare.sz, DServer.sz, DWorld.sz] at *; omega) | (simp only [List.length_map] at *; omega) | (simp only [List.length_map, DArchive.sz, DArchivedRound.sz, DClient.sz, DDatabase.sz, DDevice.sz, DReceivedShare.sz, DServer.sz, DWorld.sz] at *; omega)) (by first | assumption | omega | (simp only [DArchive.sz, DArchivedRound.sz, DClient.sz, DDatabase.sz, DDevice.sz, DReceivedShare.sz, DServer.sz, DWorld.sz] at *; omega) | (simp only [List.length_map] at *; omega) | (simp only [List.length_map, DArchive.sz, DArchivedRound.sz, DClient.sz, DDatabase.sz, DDevice.sz, DReceivedShare.sz, DServer.sz, DWorld.sz] at *; omega)), ?_⟩)
         | (refine Or.inr ⟨rfl, Or.inr (Or.inl ?_)⟩; (conv => whnf); first | refine ⟨rfl, _, _, c_markWorld _ _ (by first | assumption | omega | (simp only [DArchive.sz, DArchivedRound.sz, DClient.sz, DDatabase.sz, DDevice.sz, DReceivedShare.sz, DServer.sz, DWorld.sz] at *; omega) | (simp only [List.length_map] at *; omega) | (simp only [List.length_map, DArchive.sz, DArchivedRound.sz, DClient.sz, DDatabase.sz, DDevice.sz, DReceivedShare.sz, DServer.sz, DWorld.sz] at *; omega)) (by first | assumption | omega | (simp only [DArchive.sz, DArchivedRound.sz, DClient.sz, DDatabase.sz, DDevice.sz, DReceivedShare.sz, DServer.sz, DWorld.sz] at *; omega) | (simp only [List.length_map] at *; omega) | (simp only [List.length_map, DArchive.sz, DArchivedRound.sz, DClient.sz, DDatabase.sz, DDevice.sz, DReceivedShare.sz, DServer.sz, DWorld.sz] at *; omega)), ?_⟩ | refine ⟨rfl, _, _, c_markDatabaseS _ _ (by first | assumption | omega | (simp only [DArchive.sz, DArchivedRound.sz, DClient.sz, DDatabase.sz, DDevice.sz, DReceivedShare.sz, DServer.sz, DWorld.sz] at *; omega) | (simp only [List.length_map] at *; omega) | (simp only [List.length_map, DArchive.sz, DArchivedRound.sz, DClient.sz, DDatabase.sz, DDevice.sz, DReceivedShare.sz, DServer.sz, DWorld.sz] at *; omega)) (by first | assumption | omega | (simp only [DArchive.sz, DArchivedRound.sz, DClient.sz, DDatabase.sz, DDevice.sz, DReceivedShare.sz, DServer.sz, DWorld.sz] at *; omega) | (simp only [List.length_map] at *; omega) | (simp only [List.length_map, DArchive.sz, DArchivedRound.sz, DClient.sz, DDatabase.sz, DDevice.sz, DReceivedShare.sz, DServer.sz, DWorld.sz] at *; omega)), ?_⟩)
         | exact trivial
         | (with_reducible rfl)
         | exact (rfl : (0 : Int) = ((0 : Nat) : Int))
         | exact w64_nat arith
         | refine bcase_T (by first | with_reducible rfl | decide) ?_
         | refine bcase_F (by first | with_reducible rfl | decide) ?_
         | refine bcase_dec (fun _ => ?_) (fun _ => ?_)
         | refine bcase_not ?_
         | refine bcase_intro (fun _ => ?_) (fun _ => ?_)
         | refine ⟨(by with_reducible rfl), ?_⟩
         | refine ⟨congrArg vi ?_, ?_⟩
         | refine ⟨congrArg vb ?_, ?_⟩
         | refine ⟨rfl, ?_⟩
         | refine ⟨(by kernel_rfl : drawOK _ = true), ?_⟩
         | refine Or.inl ?_
         | refine ⟨⟨congrArg (T.int _) ?_, rfl⟩, ?_⟩
         | refine ⟨⟨congrArg T.bool ?_, rfl⟩, ?_⟩
         | refine ⟨⟨rfl, Nat.le_of_ble_eq_true rfl⟩, ?_⟩
         | refine ⟨⟨rfl, rfl⟩, ?_⟩
         | refine ⟨⟨rfl, (by decide)⟩, ?_⟩
         | refine ⟨⟨rfl, ?_⟩, ?_⟩
         | refine ⟨Or.inr rfl, ?_⟩
         | refine ⟨Or.inl rfl, ?_⟩
         | refine ⟨⟨⟨rfl, rfl, rfl⟩, ?_⟩, ?_⟩
         | refine ⟨_, _, rfl, row_get _ _ arith, rfl, ?_⟩
         | refine ⟨Or.inr (by repeat (first | exact trivial | refine ⟨rfl, ?_⟩)), ?_⟩
         | refine ⟨(?_ : _ = ([] : List (List T))), ?_⟩
         | fail))
  all_goals (first | rfl | (simp_all; done))
end Go.Proofs.YtdbgmncapignoaaGreat
