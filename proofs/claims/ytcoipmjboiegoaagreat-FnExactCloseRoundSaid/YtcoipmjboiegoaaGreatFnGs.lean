/-
  Sizes of worlds in which a device or a server was exchanged.
  Conditions: none.
-/
import Derived.Test.YtcoipmjboiegoaaGreatFnGx
import Derived.Test.YtcoipmjboiegoaaGreatFnH
namespace Go.Proofs.YtcoipmjboiegoaaGreat
set_option maxHeartbeats 4000000
set_option maxRecDepth 20000
open Go.Vm Go.RowKit
attribute [local irreducible] FnAt MutAt InAt JAt CurAt

theorem szL_set {α : Type} (f : α → Nat) : ∀ (l : List α) (i : Nat) (x : α), szL f (l.set i x) ≤ szL f l + f x
  | [], i, x => by simp [szL]
  | y :: l, 0, x => by simp only [List.set_cons_zero, szL, List.length_cons, List.map_cons, List.sum_cons]; omega
  | y :: l, i + 1, x => by
    have := szL_set f l i x
    simp only [List.set_cons_succ, szL, List.length_cons, List.map_cons, List.sum_cons] at *
    omega
theorem setDev_sz (w : DWorld) (c : Int) (f : DDevice → DDevice) (k : Nat) (hf : ∀ d, (f d).sz ≤ 2 * d.sz + k) : (setDev w c f).sz ≤ 3 * w.sz + k := by
  unfold setDev
  cases e : w.Devices[c.toNat]? with
  | none => simp only [DWorld.sz]; omega
  | some d =>
    have h1 := szL_set DDevice.sz w.Devices c.toNat (f d)
    have h2 := szL_mem DDevice.sz w.Devices (List.mem_of_getElem? e)
    have h3 := hf d
    simp only [DWorld.sz]
    omega
theorem crashW_sz (w : DWorld) (c : Int) : (crashW w c).sz ≤ 3 * w.sz := by
  unfold crashW
  split
  · exact setDev_sz w c crashD 0 (fun d => crashD_sz d)
  · omega
theorem submitW_sz (w : DWorld) (c : Int) (m : List UInt8) : (submitW w c m).sz ≤ 3 * w.sz + (2 + 2 * m.length) := by
  unfold submitW
  split
  · exact setDev_sz w c _ _ (fun d => by have := submitD_sz d m; omega)
  · omega
theorem corruptW_sz (w : DWorld) (s b : Int) : (corruptW w s b).sz ≤ 2 * w.sz := by
  unfold corruptW
  split
  · cases e : w.Servers[s.toNat]? with
    | none => simp only [DWorld.sz]; omega
    | some v =>
      have h1 := szL_set DServer.sz w.Servers s.toNat { v with Behavior := b }
      have h2 := szL_mem DServer.sz w.Servers (List.mem_of_getElem? e)
      simp only [DWorld.sz, DServer.sz] at *
      omega
  · omega
theorem wDev {w : DWorld} (h : w.sz ≤ 1048576) : w.Devices.length ≤ 1048576 := by
  have := szL_len DDevice.sz w.Devices
  simp only [DWorld.sz] at h
  omega
theorem devLen {w : DWorld} (h : w.sz ≤ 1048576) : ∀ d ∈ w.Devices, d.Live.Submitted.length ≤ 1048576 ∧ d.Saved.Submitted.length ≤ 1048576 := fun d hd => by
  have h2 := szL_mem DDevice.sz w.Devices hd
  have h3 := szL_len List.length d.Live.Submitted
  have h4 := szL_len List.length d.Saved.Submitted
  simp only [DWorld.sz, DDevice.sz, DClient.sz] at *
  omega
end Go.Proofs.YtcoipmjboiegoaaGreat
