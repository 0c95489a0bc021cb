/-
  The size of a world whose servers were tested.
  Conditions: none.
-/
import Derived.Test.YtdbgmncapignoaaGreatFnTs2i
import Derived.Test.YtdbgmncapignoaaGreatFnTs2s
import Derived.Test.YtdbgmncapignoaaGreatFnH
namespace Go.Proofs.YtdbgmncapignoaaGreat
set_option maxHeartbeats 4000000
set_option maxRecDepth 20000
open Go.Vm Go.RowKit
attribute [local irreducible] FnAt MutAt InAt JAt CurAt

theorem szL_set2 {α : Type} (f : α → Nat) : ∀ (l : List α) (i : Nat) (x : α), szL f (l.set i x) ≤ szL f l + f x
  | [], i, x => by simp [szL]
  | y :: l, 0, x => by simp only [List.set_cons_zero, szL, List.length_cons, List.map_cons, List.sum_cons]; omega
  | y :: l, i + 1, x => by
    have := szL_set2 f l i x
    simp only [List.set_cons_succ, szL, List.length_cons, List.map_cons, List.sum_cons] at *
    omega
theorem guiltyS_sz2 (w : DWorld) (g : List Int) : szL DServer.sz (guiltyS w g) ≤ szL DServer.sz w.Servers := foldl_all (fun l => szL DServer.sz l ≤ szL DServer.sz w.Servers) (replS w) (fun l id h => by
  unfold replS
  split
  · have h2 : (freshS w id).sz = 0 := by unfold DServer.sz; rw [freshS_sub]; rfl
    have h3 := szL_set2 DServer.sz l id.toNat (freshS w id)
    omega
  · exact h) g w.Servers (Nat.le_refl _)
theorem testW_sz (w : DWorld) : (testW w).sz ≤ w.sz + w.Servers.length := by
  unfold testW
  split
  · have h2 := guiltyS_sz2 w (testL w)
    have h3 : (guiltyR w (testL w)).length ≤ w.Replaced.length + w.Servers.length := testR_len w _ _ _
    simp only [DWorld.sz]
    omega
  · omega
theorem wSmall {w : DWorld} (h : w.sz ≤ 1048576) : (w.Devices.length ≤ 1048576 ∧ w.Replaced.length ≤ 1048576) ∧ (w.Servers.length ≤ 1048576 ∧ ∀ r ∈ w.Archive.Rounds, ∀ x ∈ r.Database.Rows, x.length ≤ 1048576) := by
  have h1 := szL_len DDevice.sz w.Devices
  have h2 := szL_len DServer.sz w.Servers
  simp only [DWorld.sz, DArchive.sz] at h
  refine ⟨⟨by omega, by omega⟩, by omega, fun r hr x hx => ?_⟩
  have h3 := szL_mem DArchivedRound.sz w.Archive.Rounds hr
  have h4 := szL_mem List.length r.Database.Rows hx
  simp only [DArchivedRound.sz, DDatabase.sz] at h3
  omega
end Go.Proofs.YtdbgmncapignoaaGreat
