/-
  Contracts of the statements.
  Conditions: none.
-/
import Derived.Test.YtdbgmncapignoaaGreatFnTs3
import Derived.Test.YtdbgmncapignoaaGreatFnI3
import Derived.Test.YtdbgmncapignoaaGreatFnJ
namespace Go.Proofs.YtdbgmncapignoaaGreat
set_option maxHeartbeats 4000000
set_option maxRecDepth 20000
open Go.Vm Go.RowKit
attribute [local irreducible] FnAt MutAt InAt JAt CurAt

theorem c_FnExactTestServers (a0 : DWorld) (k0 : DWorld.ok a0) : FnAt Tryz.prog 5 [.agg (DWorld.e a0)] [.one (.s (.bool true))] := by
  have hr := testW_sz a0
  have hr2 := fun h => (wSmall (w := a0) h).2.1
  have hc0 := cnt_ServerS (testW a0).Servers
  have hc1 := cnt_DeviceS (testW a0).Devices
  have hc2 := cnt_ArchivedRoundS (testW a0).Archive.Rounds
  have hc3 := cnt_IntS (testW a0).Replaced
  have hca0_0 := cnt_ServerS a0.Servers
  have hca0_1 := cnt_DeviceS a0.Devices
  have hca0_2 := cnt_ArchivedRoundS a0.Archive.Rounds
  have hca0_3 := cnt_IntS a0.Replaced
  refine fn_of Tryz.func5 rfl (by kernel_rfl) rfl ?_
  all_goals repeat' (first
    | (with_reducible rfl)
    | (conv => whnf
       first
         | refine bcase_szS (fun _ => ?_) (fun _ _ => ?_)
         | refine bcase_F (by first | rfl | (rw [decide_eq_false_iff_not]; omega) | (refine bne_eq_false_iff_eq.2 ?_; omega)) ?_
         | (refine Or.inl ?_; (conv => whnf); first | refine ⟨_, c_sTestServers a0 (bigW_of (by omega)) (wSmall (by omega)).1.1 (wSmall (by omega)).1.2 (wSmall (by omega)).2.2, ?_⟩ | refine ⟨_, c_TestServers a0 (bigW_of (by omega)) (wSmall (by omega)).1.1 (wSmall (by omega)).1.2 (wSmall (by omega)).2.2, ?_⟩ | refine ⟨_, c_szWorld _ _ (by first | exact k0) (by omega), ?_⟩ | refine ⟨_, c_toWorld _ (by first | assumption | omega | (simp only [DArchive.sz, DArchivedRound.sz, DClient.sz, DDatabase.sz, DDevice.sz, DReceivedShare.sz, DServer.sz, DWorld.sz] at *; omega) | (simp only [List.length_map] at *; omega) | (simp only [List.length_map, DArchive.sz, DArchivedRound.sz, DClient.sz, DDatabase.sz, DDevice.sz, DReceivedShare.sz, DServer.sz, DWorld.sz] at *; omega)), ?_⟩ | refine ⟨_, c_eqWorld _ (by first | assumption | omega | (simp only [DArchive.sz, DArchivedRound.sz, DClient.sz, DDatabase.sz, DDevice.sz, DReceivedShare.sz, DServer.sz, DWorld.sz] at *; omega) | (simp only [List.length_map] at *; omega) | (simp only [List.length_map, DArchive.sz, DArchivedRound.sz, DClient.sz, DDatabase.sz, DDevice.sz, DReceivedShare.sz, DServer.sz, DWorld.sz] at *; omega)), ?_⟩ | refine ⟨_, c_heldWorld _ _ (by first | assumption | omega | (simp only [DArchive.sz, DArchivedRound.sz, DClient.sz, DDatabase.sz, DDevice.sz, DReceivedShare.sz, DServer.sz, DWorld.sz] at *; omega) | (simp only [List.length_map] at *; omega) | (simp only [List.length_map, DArchive.sz, DArchivedRound.sz, DClient.sz, DDatabase.sz, DDevice.sz, DReceivedShare.sz, DServer.sz, DWorld.sz] at *; omega)) (by first | assumption | omega | (simp only [DArchive.sz, DArchivedRound.sz, DClient.sz, DDatabase.sz, DDevice.sz, DReceivedShare.sz, DServer.sz, DWorld.sz] at *; omega) | (simp only [List.length_map] at *; omega) | (simp only [List.length_map, DArchive.sz, DArchivedRound.sz, DClient.sz, DDatabase.sz, DDevice.sz, DReceivedShare.sz, DServer.sz, DWorld.sz] at *; omega)), ?_⟩)
         | (refine Or.inr ⟨rfl, Or.inr (Or.inl ?_)⟩; (conv => whnf); first | refine ⟨rfl, _, _, c_markWorld _ _ (by first | assumption | omega | (simp only [DArchive.sz, DArchivedRound.sz, DClient.sz, DDatabase.sz, DDevice.sz, DReceivedShare.sz, DServer.sz, DWorld.sz] at *; omega) | (simp only [List.length_map] at *; omega) | (simp only [List.length_map, DArchive.sz, DArchivedRound.sz, DClient.sz, DDatabase.sz, DDevice.sz, DReceivedShare.sz, DServer.sz, DWorld.sz] at *; omega)) (by first | assumption | omega | (simp only [DArchive.sz, DArchivedRound.sz, DClient.sz, DDatabase.sz, DDevice.sz, DReceivedShare.sz, DServer.sz, DWorld.sz] at *; omega) | (simp only [List.length_map] at *; omega) | (simp only [List.length_map, DArchive.sz, DArchivedRound.sz, DClient.sz, DDatabase.sz, DDevice.sz, DReceivedShare.sz, DServer.sz, DWorld.sz] at *; omega)), ?_⟩)
         | exact trivial
         | (with_reducible rfl)
         | exact (rfl : (0 : Int) = ((0 : Nat) : Int))
         | exact w64_nat arith
         | refine bcase_T (by first | with_reducible rfl | decide) ?_
         | refine bcase_F (by first | with_reducible rfl | decide) ?_
         | refine bcase_dec (fun _ => ?_) (fun _ => ?_)
         | refine bcase_not ?_
         | refine bcase_intro (fun _ => ?_) (fun _ => ?_)
         | refine ⟨(by with_reducible rfl), ?_⟩
         | refine ⟨congrArg vi ?_, ?_⟩
         | refine ⟨congrArg vb ?_, ?_⟩
         | refine ⟨rfl, ?_⟩
         | refine ⟨(by kernel_rfl : drawOK _ = true), ?_⟩
         | refine Or.inl ?_
         | refine ⟨⟨congrArg (T.int _) ?_, rfl⟩, ?_⟩
         | refine ⟨⟨congrArg T.bool ?_, rfl⟩, ?_⟩
         | refine ⟨⟨rfl, Nat.le_of_ble_eq_true rfl⟩, ?_⟩
         | refine ⟨⟨rfl, rfl⟩, ?_⟩
         | refine ⟨⟨rfl, (by decide)⟩, ?_⟩
         | refine ⟨⟨rfl, ?_⟩, ?_⟩
         | refine ⟨Or.inr rfl, ?_⟩
         | refine ⟨Or.inl rfl, ?_⟩
         | refine ⟨⟨⟨rfl, rfl, rfl⟩, ?_⟩, ?_⟩
         | refine ⟨_, _, rfl, row_get _ _ arith, rfl, ?_⟩
         | refine ⟨Or.inr (by repeat (first | exact trivial | refine ⟨rfl, ?_⟩)), ?_⟩
         | refine ⟨(?_ : _ = ([] : List (List T))), ?_⟩
         | fail))
  all_goals (first | rfl | (simp_all; done))
end Go.Proofs.YtdbgmncapignoaaGreat
