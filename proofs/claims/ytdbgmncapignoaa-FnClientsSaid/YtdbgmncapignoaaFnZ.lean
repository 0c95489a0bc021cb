/-
  Contracts of the statements' own helpers, written by a program of ours by type.
  Conditions: none.
-/
import Derived.Test.YtdbgmncapignoaaVmY
import Derived.Test.YtdbgmncapignoaaVmAc
namespace Go.Proofs.Ytdbgmncapignoaa
set_option maxHeartbeats 4000000
set_option maxRecDepth 20000
open Go.Vm Go.RowKit
attribute [local irreducible] FnAt MutAt InAt JAt CurAt FnE CurE RegAt

end Go.Proofs.Ytdbgmncapignoaa
