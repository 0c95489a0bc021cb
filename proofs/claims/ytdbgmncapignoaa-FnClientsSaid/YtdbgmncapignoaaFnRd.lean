/-
  Contracts: reading on a device; the laws of reading.
  Conditions: none.
-/
import Derived.Test.YtdbgmncapignoaaFnReS
import Derived.Test.YtdbgmncapignoaaFnF
namespace Go.Proofs.Ytdbgmncapignoaa
set_option maxHeartbeats 4000000
set_option maxRecDepth 20000
open Go.Vm Go.RowKit
attribute [local irreducible] FnAt MutAt InAt JAt CurAt FnE CurE RegAt

end Go.Proofs.Ytdbgmncapignoaa
