/-
  Contracts: equality of servers and of worlds.
  Conditions: none.
-/
import Derived.Test.YtmaamiapipngaaaGreatFnS2
import Derived.Test.YtmaamiapipngaaaGreatFnE
namespace Go.Proofs.YtmaamiapipngaaaGreat
set_option maxHeartbeats 4000000
set_option maxRecDepth 20000
open Go.Vm Go.RowKit
attribute [local irreducible] FnAt MutAt InAt JAt CurAt FnE CurE RegAt

def shareEq (x y : DReceivedShare) : Bool := decide (x.Client = y.Client) && (x.Share.Rows == y.Share.Rows)
def servEq (a b : DServer) : Bool := decide (a.Id = b.Id) && decide (a.Rows = b.Rows) && decide (a.Round = b.Round) && decide (a.Behavior = b.Behavior) && eqL shareEq a.Received b.Received
def bigDs (l : List DDevice) : Prop := l.length ≤ 1099511627776 ∧ ∀ d ∈ l, bigD d
def bigW (w : DWorld) : Prop := bigSs w.Servers ∧ bigDs w.Devices ∧ bigR w.Archive.Rounds ∧ w.Replaced.length ≤ 1099511627776
def worldHead (a b : DWorld) : Bool := decide (a.Rows = b.Rows) && archEq a.Archive b.Archive && decide (a.Master = b.Master) && decide (a.Seed = b.Seed) && decide (a.Round = b.Round) && (a.Replaced == b.Replaced) && decide (a.Cancelled = b.Cancelled)
def worldEq (a b : DWorld) : Bool := worldHead a b && eqL servEq a.Servers b.Servers && eqL devEq a.Devices b.Devices
theorem bigW_of {w : DWorld} (h : w.sz ≤ 1099511627776) : bigW w := by
  simp only [DWorld.sz] at h
  refine ⟨bigSs_of (by omega), ⟨?_, fun d hd => ?_⟩, bigR_of (by omega), by omega⟩
  · have := szL_len DDevice.sz w.Devices; omega
  · have := szL_mem DDevice.sz w.Devices hd; exact bigD_of (by omega)
end Go.Proofs.YtmaamiapipngaaaGreat
