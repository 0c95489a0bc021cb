/-
  Contracts: exclusive or of bytes and of databases.
  Conditions: none.
-/
import Derived.Test.YtcoipmjboiegoaaGreatFnG
namespace Go.Proofs.YtcoipmjboiegoaaGreat
set_option maxHeartbeats 4000000
set_option maxRecDepth 20000
open Go.Vm Go.RowKit
attribute [local irreducible] FnAt MutAt InAt JAt CurAt

theorem partm_get {α : Type} {f : Nat → α → α} {b : List α} {i : Nat} (g : α → List T) (h : i < b.length) : ((Vm.part f b i).map g)[i]? = some (g b[i]) := by rw [List.getElem?_map, part_get h]; rfl
theorem partm_set {α : Type} {f : Nat → α → α} {b : List α} {i : Nat} (g : α → List T) (h : i < b.length) : ((Vm.part f b i).map g).set i (g (f i b[i])) = (Vm.part f b (i + 1)).map g := by rw [← part_set h, List.map_set]
theorem xor_part (a b : List UInt8) (h : b.length ≤ a.length) {i : Nat} (hi : i = b.length) : Vm.part (fun i x => x ^^^ (b[i]?.getD 0)) a i = xorB a b := by
  rw [hi, part_stop (fun j hj hn => by rw [List.getElem?_eq_none hn]; simp) h, xorB_mapIdx a b h]
attribute [local irreducible] xorB Vm.part
end Go.Proofs.YtcoipmjboiegoaaGreat
