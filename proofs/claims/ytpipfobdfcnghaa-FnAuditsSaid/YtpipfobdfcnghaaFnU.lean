/-
  Contracts: what a client writes.
  Conditions: none.
-/
import Derived.Test.YtpipfobdfcnghaaFnO
namespace Go.Proofs.Ytpipfobdfcnghaa
set_option maxHeartbeats 4000000
set_option maxRecDepth 20000
open Go.Vm Go.RowKit
attribute [local irreducible] FnAt MutAt InAt JAt CurAt FnE CurE RegAt

def coverRow (s r n : Int) : Int := if inR n 1 64 then (child (khash s [157, r]) 0).tmod n else -1
def coverCell (s : Int) : List UInt8 := stream (khash s [73]) 24
def dirKey (k d : Int) : Int := orOne (khash k [83, d])
end Go.Proofs.Ytpipfobdfcnghaa
