/-
  Sizes of new worlds.
  Conditions: none.
-/
import Derived.Test.YtmkgakabmffibaaFnNwS
import Derived.Test.YtmkgakabmffibaaFnH
namespace Go.Proofs.Ytmkgakabmffibaa
set_option maxHeartbeats 4000000
set_option maxRecDepth 20000
open Go.Vm Go.RowKit
attribute [local irreducible] FnAt MutAt InAt

theorem newCl_sz (s : Int) (i : Nat) : (newCl s i).sz = 0 := by
  have h := newClient_sub i (bits .xor .i64 (i : Int) 1) (orOne (khash s [199, IntKind.i64.wrap ((i : Int).tdiv 2)])) (khash s [211, (i : Int)])
  unfold newCl
  simp only [DClient.sz, h.1, h.2]
  rfl
theorem zsum : ∀ l : List Nat, (l.map fun _ => 0).sum = 0
  | [] => rfl
  | _ :: l => by rw [List.map_cons, List.sum_cons, zsum l]
theorem newWorld_sz (n s p sd : Int) : (newWorld n s p sd).sz ≤ 12 := by
  have z1 : ∀ k : Nat, szL DServer.sz ((List.range k).map (newServ n)) = k := fun k => by
    have : ∀ i, (newServ n i).sz = 0 := fun i => by unfold newServ; simp only [DServer.sz, newServer_sub]; rfl
    simp only [szL, List.length_map, List.length_range, List.map_map]
    have e : (DServer.sz ∘ newServ n) = fun _ => 0 := funext this
    rw [e, zsum]; rfl
  have z2 : ∀ k : Nat, szL DDevice.sz ((List.range k).map (newDev sd)) = k := fun k => by
    have : ∀ i, (newDev sd i).sz = 0 := fun i => by unfold newDev; simp only [DDevice.sz, newCl_sz]
    simp only [szL, List.length_map, List.length_range, List.map_map]
    have e : (DDevice.sz ∘ newDev sd) = fun _ => 0 := funext this
    rw [e, zsum]; rfl
  unfold newWorld
  split
  · next h =>
    simp only [newWOk, Bool.and_eq_true] at h
    have h2 := inR_iff.1 h.1.2
    have h3 := inR_iff.1 h.2
    have e1 := z1 s.toNat
    have e2 := z2 (2 * p).toNat
    have e3 : szL DArchivedRound.sz (newArch n).Rounds = 0 := rfl
    simp only [DWorld.sz, DArchive.sz, List.length_nil]
    rw [e1, e2, e3]
    omega
  · exact Nat.zero_le _
end Go.Proofs.Ytmkgakabmffibaa
