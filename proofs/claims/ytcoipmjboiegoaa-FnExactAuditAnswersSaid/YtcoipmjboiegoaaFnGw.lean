/-
  Contracts: copies of servers and of worlds.
  Conditions: none.
-/
import Derived.Test.YtcoipmjboiegoaaFnWo
import Derived.Test.YtcoipmjboiegoaaFnG
import Derived.Test.YtcoipmjboiegoaaFnF
namespace Go.Proofs.Ytcoipmjboiegoaa
set_option maxHeartbeats 4000000
set_option maxRecDepth 20000
open Go.Vm Go.RowKit
attribute [local irreducible] FnAt MutAt InAt JAt CurAt FnE CurE RegAt

end Go.Proofs.Ytcoipmjboiegoaa
