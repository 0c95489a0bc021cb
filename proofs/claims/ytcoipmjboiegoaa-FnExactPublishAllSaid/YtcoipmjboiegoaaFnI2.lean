/-
  Contracts of the statements' own helpers, written by a program of ours by type.
  Conditions: none.
-/
import Derived.Test.YtcoipmjboiegoaaFnI
namespace Go.Proofs.Ytcoipmjboiegoaa
set_option maxHeartbeats 4000000
set_option maxRecDepth 20000
open Go.Vm Go.RowKit
attribute [local irreducible] FnAt MutAt InAt JAt CurAt FnE CurE RegAt

def mid (r : List (List T)) (k : Int) (i : Nat) (c : List T) : List (List T) := (mkAt r k i).set i c
theorem mid_in (r : List (List T)) (k : Int) (i : Nat) (c : List T) : (mkAt r k i).set i c = mid r k i c := rfl
theorem mid_set (r : List (List T)) (k : Int) (i : Nat) (c d : List T) : (mid r k i c).set i d = mid r k i d := by unfold mid; rw [List.set_set]
theorem mid_len (r : List (List T)) (k : Int) (i : Nat) (c : List T) : (mid r k i c).length = r.length := by unfold mid; rw [List.length_set, mkAt_len]
theorem mid_get {α : Type} {f : α → List T} {xs : List α} {k : Int} {i : Nat} {c : List T} (h : i < xs.length) : (mid (xs.map f) k i c)[i]? = some c := by
  unfold mid; rw [List.getElem?_set_self (by rw [mkAt_len, List.length_map]; exact h)]
attribute [local irreducible] mid
end Go.Proofs.Ytcoipmjboiegoaa
