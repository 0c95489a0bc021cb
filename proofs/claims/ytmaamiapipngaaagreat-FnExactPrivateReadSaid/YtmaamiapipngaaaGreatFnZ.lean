/-
  Contracts of the statements' own helpers, written by a program of ours by type.
  Conditions: none.
-/
import Derived.Test.YtmaamiapipngaaaGreatVmY
import Derived.Test.YtmaamiapipngaaaGreatVmAc
namespace Go.Proofs.YtmaamiapipngaaaGreat
set_option maxHeartbeats 4000000
set_option maxRecDepth 20000
open Go.Vm Go.RowKit
attribute [local irreducible] FnAt MutAt InAt JAt CurAt FnE CurE RegAt

def DDatabase.sz (x : DDatabase) : Nat := (szL List.length) x.Rows
def DReceivedShare.sz (x : DReceivedShare) : Nat := DDatabase.sz x.Share
def DServer.sz (x : DServer) : Nat := (szL DReceivedShare.sz) x.Received
def DClient.sz (x : DClient) : Nat := (szL List.length) x.Submitted + (szL List.length) x.Inbox
def DDevice.sz (x : DDevice) : Nat := DClient.sz x.Live + DClient.sz x.Saved
def DArchivedRound.sz (x : DArchivedRound) : Nat := DDatabase.sz x.Database
def DArchive.sz (x : DArchive) : Nat := (szL DArchivedRound.sz) x.Rounds
def DWorld.sz (x : DWorld) : Nat := (szL DServer.sz) x.Servers + (szL DDevice.sz) x.Devices + DArchive.sz x.Archive + List.length x.Replaced
end Go.Proofs.YtmaamiapipngaaaGreat
