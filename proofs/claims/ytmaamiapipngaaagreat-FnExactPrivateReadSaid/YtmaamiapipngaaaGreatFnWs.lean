/-
  Contracts: seeds of a write.
  Conditions: none.
-/
import Derived.Test.YtmaamiapipngaaaGreatFnEq
import Derived.Test.YtmaamiapipngaaaGreatFnK
namespace Go.Proofs.YtmaamiapipngaaaGreat
set_option maxHeartbeats 4000000
set_option maxRecDepth 20000
open Go.Vm Go.RowKit
attribute [local irreducible] FnAt MutAt InAt JAt CurAt FnE CurE RegAt

theorem range_take {α : Type} (f : Nat → α) (i : Nat) : (List.range (i + 1)).map f = (List.range i).map f ++ [f i] := by rw [List.range_succ, List.map_append]; rfl
def wSeed (w : DWorld) (c : Int) (i : Nat) : Int := khash w.Seed [223, w.Round, c, (i : Int)]
def wSeeds (w : DWorld) (c : Int) : List Int := (List.range (w.Servers.length - 1)).map (wSeed w c)
theorem wSeeds_len (w : DWorld) (c : Int) : (wSeeds w c).length = w.Servers.length - 1 := by rw [wSeeds, List.length_map, List.length_range]
end Go.Proofs.YtmaamiapipngaaaGreat
