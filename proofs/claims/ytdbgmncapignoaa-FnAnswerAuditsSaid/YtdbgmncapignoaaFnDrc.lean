/-
  Contracts: archives of any shape, rounds to add to them, as the cursor draws them.
  Conditions: none.
-/
import Derived.Test.YtdbgmncapignoaaFnDrb
namespace Go.Proofs.Ytdbgmncapignoaa
set_option maxHeartbeats 4000000
set_option maxRecDepth 20000
open Go.Vm Go.RowKit
attribute [local irreducible] FnAt MutAt InAt JAt CurAt FnE CurE RegAt
