/-
  Contracts: devices that are copied, saved, crashed, submitted to.
  Conditions: none.
-/
import Derived.Test.YtmaamiapipngaaaGreatFnE
import Derived.Test.YtmaamiapipngaaaGreatFnQ
namespace Go.Proofs.YtmaamiapipngaaaGreat
set_option maxHeartbeats 4000000
set_option maxRecDepth 20000
open Go.Vm Go.RowKit
attribute [local irreducible] FnAt MutAt InAt JAt CurAt FnE CurE RegAt

def saveD (d : DDevice) : DDevice := if devOk d then ⟨d.Live, d.Live⟩ else d
def crashD (d : DDevice) : DDevice := if devOk d then ⟨d.Saved, d.Saved⟩ else d
def submitOk (d : DDevice) (b : List UInt8) : Bool := devOk d && queued d.Live b && queued d.Saved b
def submitD (d : DDevice) (b : List UInt8) : DDevice := if submitOk d b then ⟨queue d.Live b, queue d.Saved b⟩ else d
theorem saveD_sz (d : DDevice) : (saveD d).sz ≤ 2 * d.sz := by
  unfold saveD
  split <;> simp only [DDevice.sz] <;> omega
theorem crashD_sz (d : DDevice) : (crashD d).sz ≤ 2 * d.sz := by
  unfold crashD
  split <;> simp only [DDevice.sz] <;> omega
theorem submitD_sz (d : DDevice) (b : List UInt8) : (submitD d b).sz ≤ d.sz + 2 + 2 * b.length := by
  have hq : ∀ c : DClient, (queue c b).sz = c.sz + 1 + b.length := fun c => by
    simp only [queue, DClient.sz, szL, List.map_append, List.sum_append, List.length_append, List.map_cons, List.map_nil, List.sum_cons, List.sum_nil, List.length_cons, List.length_nil]; omega
  unfold submitD
  split
  · simp only [DDevice.sz, hq]; omega
  · simp only [DDevice.sz]; omega
end Go.Proofs.YtmaamiapipngaaaGreat
