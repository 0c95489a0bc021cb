/-
  Contracts of the statements' own helpers, written by a program of ours by type.
  Conditions: none.
-/
import Derived.Test.YtdbgmncapignoaaGreatFnI2
namespace Go.Proofs.YtdbgmncapignoaaGreat
set_option maxHeartbeats 4000000
set_option maxRecDepth 20000
open Go.Vm Go.RowKit
attribute [local irreducible] FnAt MutAt InAt JAt CurAt

theorem c_markWorld (x : DWorld) (k : Int) (hx : DWorld.sz x ≤ 4611686018427387904) (hk : 0 ≤ k ∧ ((((k + cntRows (x.Servers.map DServer.e)) + cntRows (x.Devices.map DDevice.e)) + cntRows (x.Archive.Rounds.map DArchivedRound.e)) + cntRows (x.Replaced.map eI)) ≤ 4611686018427387904) : MutAt Tryz.prog 12 (.agg [.s (I x.Rows), .w 5 (x.Servers.map DServer.e), .w 16 (x.Devices.map DDevice.e), .s (I x.Archive.Rows), .w 2 (x.Archive.Rounds.map DArchivedRound.e), .s (I x.Master), .s (I x.Seed), .s (I x.Round), .w 1 (x.Replaced.map eI), .s (I x.Cancelled)]) (.agg [.s (I x.Rows), .w 5 (mkRows (x.Servers.map DServer.e) k), .w 16 (mkRows (x.Devices.map DDevice.e) (k + cntRows (x.Servers.map DServer.e))), .s (I x.Archive.Rows), .w 2 (mkRows (x.Archive.Rounds.map DArchivedRound.e) ((k + cntRows (x.Servers.map DServer.e)) + cntRows (x.Devices.map DDevice.e))), .s (I x.Master), .s (I x.Seed), .s (I x.Round), .w 1 (mkRows (x.Replaced.map eI) (((k + cntRows (x.Servers.map DServer.e)) + cntRows (x.Devices.map DDevice.e)) + cntRows (x.Archive.Rounds.map DArchivedRound.e))), .s (I x.Cancelled)]) [.one (I k)] (I ((((k + cntRows (x.Servers.map DServer.e)) + cntRows (x.Devices.map DDevice.e)) + cntRows (x.Archive.Rounds.map DArchivedRound.e)) + cntRows (x.Replaced.map eI))) := by
  refine mut_of Tryz.func12 rfl (by kernel_rfl) rfl (by simp [isScal]) rfl ?_
  all_goals repeat' (first
    | (with_reducible rfl)
    | (conv => whnf
       first
         | refine Or.inr ⟨rfl, Or.inr (Or.inl ?_)⟩
         | refine ⟨rfl, _, _, c_markServerS _ _ (by simp only [DWorld.sz] at hx; omega) (by omega), ?_⟩
         | refine Or.inr ⟨rfl, Or.inr (Or.inl ?_)⟩
         | refine ⟨rfl, _, _, c_markDeviceS _ _ (by simp only [DWorld.sz] at hx; omega) (by omega), ?_⟩
         | refine Or.inr ⟨rfl, Or.inr (Or.inl ?_)⟩
         | refine ⟨rfl, _, _, c_markArchive _ _ (by simp only [DWorld.sz] at hx; omega) (by omega), ?_⟩
         | refine Or.inr ⟨rfl, Or.inr (Or.inl ?_)⟩
         | refine ⟨rfl, _, _, c_markIntS _ _ (by simp only [DWorld.sz] at hx; omega) (by omega), ?_⟩
         | refine ⟨congrArg (T.int _) ?_, ?_⟩
         | refine ⟨rfl, ?_⟩
         | exact trivial
         | (with_reducible rfl)
         | exact (rfl : (0 : Int) = ((0 : Nat) : Int))
         | exact w64_nat arith
         | refine bcase_T (by first | with_reducible rfl | decide) ?_
         | refine bcase_F (by first | with_reducible rfl | decide) ?_
         | refine bcase_dec (fun _ => ?_) (fun _ => ?_)
         | refine bcase_not ?_
         | refine bcase_intro (fun _ => ?_) (fun _ => ?_)
         | refine ⟨(by with_reducible rfl), ?_⟩
         | refine ⟨congrArg vi ?_, ?_⟩
         | refine ⟨congrArg vb ?_, ?_⟩
         | refine ⟨rfl, ?_⟩
         | refine ⟨(by kernel_rfl : drawOK _ = true), ?_⟩
         | refine Or.inl ?_
         | refine ⟨⟨congrArg (T.int _) ?_, rfl⟩, ?_⟩
         | refine ⟨⟨congrArg T.bool ?_, rfl⟩, ?_⟩
         | refine ⟨⟨rfl, Nat.le_of_ble_eq_true rfl⟩, ?_⟩
         | refine ⟨⟨rfl, rfl⟩, ?_⟩
         | refine ⟨⟨rfl, (by decide)⟩, ?_⟩
         | refine ⟨⟨rfl, ?_⟩, ?_⟩
         | refine ⟨Or.inr rfl, ?_⟩
         | refine ⟨Or.inl rfl, ?_⟩
         | refine ⟨⟨⟨rfl, rfl, rfl⟩, ?_⟩, ?_⟩
         | refine ⟨_, _, rfl, row_get _ _ arith, rfl, ?_⟩
         | refine ⟨Or.inr (by repeat (first | exact trivial | refine ⟨rfl, ?_⟩)), ?_⟩
         | refine ⟨(?_ : _ = ([] : List (List T))), ?_⟩
         | fail))
  all_goals rfl
end Go.Proofs.YtdbgmncapignoaaGreat
