/-
  Contracts of the statements' own helpers, written by a program of ours by type.
  Conditions: none.
-/
import Derived.Test.YtcoipmjboiegoaaVmY
import Derived.Test.YtcoipmjboiegoaaVmAc
namespace Go.Proofs.Ytcoipmjboiegoaa
set_option maxHeartbeats 4000000
set_option maxRecDepth 20000
open Go.Vm Go.RowKit
attribute [local irreducible] FnAt MutAt InAt JAt CurAt FnE CurE RegAt

def DDatabase.sz (x : DDatabase) : Nat := (szL List.length) x.Rows
def DReceivedShare.sz (x : DReceivedShare) : Nat := DDatabase.sz x.Share
def DServer.sz (x : DServer) : Nat := (szL DReceivedShare.sz) x.Received
def DSignedAnswer.sz (x : DSignedAnswer) : Nat := List.length x.Selection + List.length x.Data
end Go.Proofs.Ytcoipmjboiegoaa
