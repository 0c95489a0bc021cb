/-
  Contracts: devices.
  Conditions: none.
-/
import Derived.Test.YtpipfobdfcnghaaFnC
namespace Go.Proofs.Ytpipfobdfcnghaa
set_option maxHeartbeats 4000000
set_option maxRecDepth 20000
open Go.Vm Go.RowKit
attribute [local irreducible] FnAt MutAt InAt JAt CurAt FnE CurE RegAt

/-- The first elements of another list. -/
def isPre (a b : List (List UInt8)) : Bool := decide ((a.length : Int) ≤ (b.length : Int)) && (a == b.take a.length)
end Go.Proofs.Ytpipfobdfcnghaa
