/-
  Contracts of the statements.
  Conditions: none.
-/
import Derived.Test.YtcoipmjboiegoaaGreatFnCl3
import Derived.Test.YtcoipmjboiegoaaGreatFnI3
import Derived.Test.YtcoipmjboiegoaaGreatFnJ
namespace Go.Proofs.YtcoipmjboiegoaaGreat
set_option maxHeartbeats 4000000
set_option maxRecDepth 20000
open Go.Vm Go.RowKit
attribute [local irreducible] FnAt MutAt InAt JAt CurAt

theorem c_FnExactCloseRound (a0 : DWorld) (a1 : (List Int)) (a2 : DDatabase) (k0 : DWorld.ok a0) (k1 : (okL okI) a1) (k2 : DDatabase.ok a2) : FnAt Tryz.prog 4 [.agg (DWorld.e a0), .one (L eI a1), .agg (DDatabase.e a2)] [.one (.s (.bool true))] := by
  have hr := closeW_sz a0 a1 a2
  have hgl := glen (g := a1)
  have hc0 := cnt_ServerS (closeW a0 a1 a2).Servers
  have hc1 := cnt_DeviceS (closeW a0 a1 a2).Devices
  have hc2 := cnt_ArchivedRoundS (closeW a0 a1 a2).Archive.Rounds
  have hc3 := cnt_IntS (closeW a0 a1 a2).Replaced
  have hca0_0 := cnt_ServerS a0.Servers
  have hca0_1 := cnt_DeviceS a0.Devices
  have hca0_2 := cnt_ArchivedRoundS a0.Archive.Rounds
  have hca0_3 := cnt_IntS a0.Replaced
  have hca1_0 := cnt_IntS a1
  have hca2_0 := cnt_ByteSS a2.Rows
  refine fn_of Tryz.func4 rfl (by kernel_rfl) rfl ?_
  all_goals repeat' (first
    | (with_reducible rfl)
    | (conv => whnf
       first
         | refine bcase_szS (fun _ => ?_) (fun _ _ => ?_)
         | refine bcase_F (by first | rfl | (rw [decide_eq_false_iff_not]; omega) | (refine bne_eq_false_iff_eq.2 ?_; omega)) ?_
         | (refine Or.inl ?_; (conv => whnf); first | refine ⟨_, c_sCloseRound a0 a1 a2 (bigW_of (by omega)) (wDev (by omega)) (wArch (by omega)).1 (glen (by assumption)) (wArch (by omega)).2 (dbB (by omega)), ?_⟩ | refine ⟨_, c_CloseRound a0 a1 a2 (bigW_of (by omega)) (wDev (by omega)) (wArch (by omega)).1 (glen (by assumption)) (wArch (by omega)).2 (dbB (by omega)), ?_⟩ | refine ⟨_, c_szWorld _ _ (by first | exact k0 | exact k1 | exact k2) (by omega), ?_⟩ | refine ⟨_, c_szDatabase _ _ (by first | exact k0 | exact k1 | exact k2) (by omega), ?_⟩ | refine ⟨_, c_toWorld _ (by first | assumption | omega | (simp only [DArchive.sz, DArchivedRound.sz, DClient.sz, DDatabase.sz, DDevice.sz, DReceivedShare.sz, DServer.sz, DWorld.sz] at *; omega) | (simp only [List.length_map] at *; omega) | (simp only [List.length_map, DArchive.sz, DArchivedRound.sz, DClient.sz, DDatabase.sz, DDevice.sz, DReceivedShare.sz, DServer.sz, DWorld.sz] at *; omega)), ?_⟩ | refine ⟨_, c_toIntS _ (by first | assumption | omega | (simp only [DArchive.sz, DArchivedRound.sz, DClient.sz, DDatabase.sz, DDevice.sz, DReceivedShare.sz, DServer.sz, DWorld.sz] at *; omega) | (simp only [List.length_map] at *; omega) | (simp only [List.length_map, DArchive.sz, DArchivedRound.sz, DClient.sz, DDatabase.sz, DDevice.sz, DReceivedShare.sz, DServer.sz, DWorld.sz] at *; omega)), ?_⟩ | refine ⟨_, c_toDatabase _ (by first | assumption | omega | (simp only [DArchive.sz, DArchivedRound.sz, DClient.sz, DDatabase.sz, DDevice.sz, DReceivedShare.sz, DServer.sz, DWorld.sz] at *; omega) | (simp only [List.length_map] at *; omega) | (simp only [List.length_map, DArchive.sz, DArchivedRound.sz, DClient.sz, DDatabase.sz, DDevice.sz, DReceivedShare.sz, DServer.sz, DWorld.sz] at *; omega)), ?_⟩ | refine ⟨_, c_eqWorld _ (by first | assumption | omega | (simp only [DArchive.sz, DArchivedRound.sz, DClient.sz, DDatabase.sz, DDevice.sz, DReceivedShare.sz, DServer.sz, DWorld.sz] at *; omega) | (simp only [List.length_map] at *; omega) | (simp only [List.length_map, DArchive.sz, DArchivedRound.sz, DClient.sz, DDatabase.sz, DDevice.sz, DReceivedShare.sz, DServer.sz, DWorld.sz] at *; omega)), ?_⟩ | refine ⟨_, c_eqIntS _ (by first | assumption | omega | (simp only [DArchive.sz, DArchivedRound.sz, DClient.sz, DDatabase.sz, DDevice.sz, DReceivedShare.sz, DServer.sz, DWorld.sz] at *; omega) | (simp only [List.length_map] at *; omega) | (simp only [List.length_map, DArchive.sz, DArchivedRound.sz, DClient.sz, DDatabase.sz, DDevice.sz, DReceivedShare.sz, DServer.sz, DWorld.sz] at *; omega)), ?_⟩ | refine ⟨_, c_eqDatabase _ (by first | assumption | omega | (simp only [DArchive.sz, DArchivedRound.sz, DClient.sz, DDatabase.sz, DDevice.sz, DReceivedShare.sz, DServer.sz, DWorld.sz] at *; omega) | (simp only [List.length_map] at *; omega) | (simp only [List.length_map, DArchive.sz, DArchivedRound.sz, DClient.sz, DDatabase.sz, DDevice.sz, DReceivedShare.sz, DServer.sz, DWorld.sz] at *; omega)), ?_⟩ | refine ⟨_, c_heldWorld _ _ (by first | assumption | omega | (simp only [DArchive.sz, DArchivedRound.sz, DClient.sz, DDatabase.sz, DDevice.sz, DReceivedShare.sz, DServer.sz, DWorld.sz] at *; omega) | (simp only [List.length_map] at *; omega) | (simp only [List.length_map, DArchive.sz, DArchivedRound.sz, DClient.sz, DDatabase.sz, DDevice.sz, DReceivedShare.sz, DServer.sz, DWorld.sz] at *; omega)) (by first | assumption | omega | (simp only [DArchive.sz, DArchivedRound.sz, DClient.sz, DDatabase.sz, DDevice.sz, DReceivedShare.sz, DServer.sz, DWorld.sz] at *; omega) | (simp only [List.length_map] at *; omega) | (simp only [List.length_map, DArchive.sz, DArchivedRound.sz, DClient.sz, DDatabase.sz, DDevice.sz, DReceivedShare.sz, DServer.sz, DWorld.sz] at *; omega)), ?_⟩)
         | (refine Or.inr ⟨rfl, Or.inr (Or.inl ?_)⟩; (conv => whnf); first | refine ⟨rfl, _, _, c_markWorld _ _ (by first | assumption | omega | (simp only [DArchive.sz, DArchivedRound.sz, DClient.sz, DDatabase.sz, DDevice.sz, DReceivedShare.sz, DServer.sz, DWorld.sz] at *; omega) | (simp only [List.length_map] at *; omega) | (simp only [List.length_map, DArchive.sz, DArchivedRound.sz, DClient.sz, DDatabase.sz, DDevice.sz, DReceivedShare.sz, DServer.sz, DWorld.sz] at *; omega)) (by first | assumption | omega | (simp only [DArchive.sz, DArchivedRound.sz, DClient.sz, DDatabase.sz, DDevice.sz, DReceivedShare.sz, DServer.sz, DWorld.sz] at *; omega) | (simp only [List.length_map] at *; omega) | (simp only [List.length_map, DArchive.sz, DArchivedRound.sz, DClient.sz, DDatabase.sz, DDevice.sz, DReceivedShare.sz, DServer.sz, DWorld.sz] at *; omega)), ?_⟩ | refine ⟨rfl, _, _, c_markIntS _ _ (by first | assumption | omega | (simp only [DArchive.sz, DArchivedRound.sz, DClient.sz, DDatabase.sz, DDevice.sz, DReceivedShare.sz, DServer.sz, DWorld.sz] at *; omega) | (simp only [List.length_map] at *; omega) | (simp only [List.length_map, DArchive.sz, DArchivedRound.sz, DClient.sz, DDatabase.sz, DDevice.sz, DReceivedShare.sz, DServer.sz, DWorld.sz] at *; omega)) (by first | assumption | omega | (simp only [DArchive.sz, DArchivedRound.sz, DClient.sz, DDatabase.sz, DDevice.sz, DReceivedShare.sz, DServer.sz, DWorld.sz] at *; omega) | (simp only [List.length_map] at *; omega) | (simp only [List.length_map, DArchive.sz, DArchivedRound.sz, DClient.sz, DDatabase.sz, DDevice.sz, DReceivedShare.sz, DServer.sz, DWorld.sz] at *; omega)), ?_⟩ | refine ⟨rfl, _, _, c_markDatabase _ _ (by first | assumption | omega | (simp only [DArchive.sz, DArchivedRound.sz, DClient.sz, DDatabase.sz, DDevice.sz, DReceivedShare.sz, DServer.sz, DWorld.sz] at *; omega) | (simp only [List.length_map] at *; omega) | (simp only [List.length_map, DArchive.sz, DArchivedRound.sz, DClient.sz, DDatabase.sz, DDevice.sz, DReceivedShare.sz, DServer.sz, DWorld.sz] at *; omega)) (by first | assumption | omega | (simp only [DArchive.sz, DArchivedRound.sz, DClient.sz, DDatabase.sz, DDevice.sz, DReceivedShare.sz, DServer.sz, DWorld.sz] at *; omega) | (simp only [List.length_map] at *; omega) | (simp only [List.length_map, DArchive.sz, DArchivedRound.sz, DClient.sz, DDatabase.sz, DDevice.sz, DReceivedShare.sz, DServer.sz, DWorld.sz] at *; omega)), ?_⟩)
         | exact trivial
         | (with_reducible rfl)
         | exact (rfl : (0 : Int) = ((0 : Nat) : Int))
         | exact w64_nat arith
         | refine bcase_T (by first | with_reducible rfl | decide) ?_
         | refine bcase_F (by first | with_reducible rfl | decide) ?_
         | refine bcase_dec (fun _ => ?_) (fun _ => ?_)
         | refine bcase_not ?_
         | refine bcase_intro (fun _ => ?_) (fun _ => ?_)
         | refine ⟨(by with_reducible rfl), ?_⟩
         | refine ⟨congrArg vi ?_, ?_⟩
         | refine ⟨congrArg vb ?_, ?_⟩
         | refine ⟨rfl, ?_⟩
         | refine ⟨(by kernel_rfl : drawOK _ = true), ?_⟩
         | refine Or.inl ?_
         | refine ⟨⟨congrArg (T.int _) ?_, rfl⟩, ?_⟩
         | refine ⟨⟨congrArg T.bool ?_, rfl⟩, ?_⟩
         | refine ⟨⟨rfl, Nat.le_of_ble_eq_true rfl⟩, ?_⟩
         | refine ⟨⟨rfl, rfl⟩, ?_⟩
         | refine ⟨⟨rfl, (by decide)⟩, ?_⟩
         | refine ⟨⟨rfl, ?_⟩, ?_⟩
         | refine ⟨Or.inr rfl, ?_⟩
         | refine ⟨Or.inl rfl, ?_⟩
         | refine ⟨⟨⟨rfl, rfl, rfl⟩, ?_⟩, ?_⟩
         | refine ⟨_, _, rfl, row_get _ _ arith, rfl, ?_⟩
         | refine ⟨Or.inr (by repeat (first | exact trivial | refine ⟨rfl, ?_⟩)), ?_⟩
         | refine ⟨(?_ : _ = ([] : List (List T))), ?_⟩
         | fail))
  all_goals (first | rfl | (simp_all; done))
end Go.Proofs.YtcoipmjboiegoaaGreat
