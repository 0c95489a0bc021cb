/-
  Contracts: seeds of a write.
  Conditions: none.
-/
import Derived.Test.YtpipfobdfcnghaaFnEq
import Derived.Test.YtpipfobdfcnghaaFnK
namespace Go.Proofs.Ytpipfobdfcnghaa
set_option maxHeartbeats 4000000
set_option maxRecDepth 20000
open Go.Vm Go.RowKit
attribute [local irreducible] FnAt MutAt InAt JAt CurAt FnE CurE RegAt

theorem range_take {α : Type} (f : Nat → α) (i : Nat) : (List.range (i + 1)).map f = (List.range i).map f ++ [f i] := by rw [List.range_succ, List.map_append]; rfl
end Go.Proofs.Ytpipfobdfcnghaa
