/-
  Contracts: the close of a round, all its cases; the size of its world.
  Conditions: none.
-/
import Derived.Test.YtcoipmjboiegoaaGreatFnCl2
import Derived.Test.YtcoipmjboiegoaaGreatFnGs
namespace Go.Proofs.YtcoipmjboiegoaaGreat
set_option maxHeartbeats 4000000
set_option maxRecDepth 20000
open Go.Vm Go.RowKit
attribute [local irreducible] FnAt MutAt InAt JAt CurAt

theorem c_CloseRound (w : DWorld) (g : List Int) (d : DDatabase) (h : bigW w) (h8 : w.Devices.length ≤ 1048576) (ha : w.Archive.Rounds.length ≤ 1048576) (hg : g.length ≤ 1048576) (hr : w.Replaced.length ≤ 1048576) (hd : bigB d.Rows) : FnAt Tryz.prog 24 [.agg (DWorld.e w), .one (L eI g), .agg (DDatabase.e d)] [.agg (DWorld.rw (closeW w g d))] := by
  cases hok : closeOk w with
  | false => exact c_CloseRound_x w g d h h8 hok
  | true =>
    cases g with
    | cons x g => exact c_CloseRound_g w (x :: g) d h h8 ha hg hr hd hok (by simp)
    | nil =>
      cases hy : addOk w.Archive w.Round d with
      | false => exact c_CloseRound_n w d h h8 ha hr hd hok hy
      | true => exact c_CloseRound_y w d h h8 ha hr hd hok hy
theorem c_sCloseRound (w : DWorld) (g : List Int) (d : DDatabase) (h : bigW w) (h8 : w.Devices.length ≤ 1048576) (ha : w.Archive.Rounds.length ≤ 1048576) (hg : g.length ≤ 1048576) (hr : w.Replaced.length ≤ 1048576) (hd : bigB d.Rows) : FnAt Tryz.prog 20 [.agg (DWorld.e w), .one (L eI g), .agg (DDatabase.e d)] [.agg (DWorld.rw (closeW w g d))] := by
  cases hok : closeOk w with
  | false => exact c_sCloseRound_x w g d h h8 hok
  | true =>
    cases g with
    | cons x g => exact c_sCloseRound_g w (x :: g) d h h8 ha hg hr hd hok (by simp)
    | nil =>
      cases hy : addOk w.Archive w.Round d with
      | false => exact c_sCloseRound_n w d h h8 ha hr hd hok hy
      | true => exact c_sCloseRound_y w d h h8 ha hr hd hok hy
theorem szL_map_le {α : Type} (f : α → Nat) (b : α → α) (hb : ∀ x, f (b x) ≤ f x) : ∀ l : List α, szL f (l.map b) ≤ szL f l
  | [] => Nat.le_refl _
  | x :: l => by
    have h := szL_map_le f b hb l
    have h2 := hb x
    simp only [szL, List.length_cons, List.map_cons, List.sum_cons] at *
    omega
theorem guiltyS_sz (w : DWorld) (g : List Int) : szL DServer.sz (guiltyS w g) ≤ szL DServer.sz w.Servers := foldl_all (fun l => szL DServer.sz l ≤ szL DServer.sz w.Servers) (replS w) (fun l id h => by
  unfold replS
  split
  · have h2 : (freshS w id).sz = 0 := by unfold DServer.sz; rw [freshS_sub]; rfl
    have h3 := szL_set DServer.sz l id.toNat (freshS w id)
    omega
  · exact h) g w.Servers (Nat.le_refl _)
theorem beginS_sz (s : DServer) : (beginS s).sz ≤ s.sz := by
  unfold beginS
  split
  · exact Nat.zero_le _
  · exact Nat.le_refl _
theorem closeW_sz (w : DWorld) (g : List Int) (d : DDatabase) : (closeW w g d).sz ≤ w.sz + d.sz + 1 + g.length := by
  unfold closeW
  split
  · have h1 := szL_map_le DServer.sz beginS beginS_sz (guiltyS w g)
    have h2 := guiltyS_sz w g
    have h3 : (guiltyR w g).length ≤ w.Replaced.length + g.length := guiltyR_len w g w.Replaced
    have h4 : (closeA w g d).sz ≤ w.Archive.sz + d.sz + 1 := by
      cases g with
      | nil => exact addRound_sz w.Archive w.Round d
      | cons x g => show w.Archive.sz ≤ _; omega
    simp only [DWorld.sz]
    omega
  · omega
theorem glen {g : List Int} (h : ¬ ((1048576 : Int) < ((g.map eI).length : Int))) : g.length ≤ 1048576 := by rw [List.length_map] at h; omega
theorem dbB {d : DDatabase} (h : d.sz ≤ 1048576) : bigB d.Rows := bigB_of (by simp only [DDatabase.sz] at h; omega)
theorem wArch {w : DWorld} (h : w.sz ≤ 1048576) : w.Archive.Rounds.length ≤ 1048576 ∧ w.Replaced.length ≤ 1048576 := by
  have := szL_len DArchivedRound.sz w.Archive.Rounds
  simp only [DWorld.sz, DArchive.sz] at h
  omega
end Go.Proofs.YtcoipmjboiegoaaGreat
