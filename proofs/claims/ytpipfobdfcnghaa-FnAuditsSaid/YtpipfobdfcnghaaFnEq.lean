/-
  Contracts: equality of servers and of worlds.
  Conditions: none.
-/
import Derived.Test.YtpipfobdfcnghaaFnS2
import Derived.Test.YtpipfobdfcnghaaFnE
namespace Go.Proofs.Ytpipfobdfcnghaa
set_option maxHeartbeats 4000000
set_option maxRecDepth 20000
open Go.Vm Go.RowKit
attribute [local irreducible] FnAt MutAt InAt JAt CurAt FnE CurE RegAt

def shareEq (x y : DReceivedShare) : Bool := decide (x.Client = y.Client) && (x.Share.Rows == y.Share.Rows)
def servEq (a b : DServer) : Bool := decide (a.Id = b.Id) && decide (a.Rows = b.Rows) && decide (a.Round = b.Round) && decide (a.Behavior = b.Behavior) && eqL shareEq a.Received b.Received
end Go.Proofs.Ytpipfobdfcnghaa
