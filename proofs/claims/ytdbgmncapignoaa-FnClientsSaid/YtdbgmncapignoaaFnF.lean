/-
  Contracts: devices that are copied, saved, crashed, submitted to.
  Conditions: none.
-/
import Derived.Test.YtdbgmncapignoaaFnE
import Derived.Test.YtdbgmncapignoaaFnQ
namespace Go.Proofs.Ytdbgmncapignoaa
set_option maxHeartbeats 4000000
set_option maxRecDepth 20000
open Go.Vm Go.RowKit
attribute [local irreducible] FnAt MutAt InAt JAt CurAt FnE CurE RegAt

end Go.Proofs.Ytdbgmncapignoaa
