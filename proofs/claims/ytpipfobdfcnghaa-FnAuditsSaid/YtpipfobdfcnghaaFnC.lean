/-
  Contracts: clients and their saved states.
  Conditions: none.
-/
import Derived.Test.YtpipfobdfcnghaaFnL
import Derived.Test.YtpipfobdfcnghaaFnK
import Derived.Test.YtpipfobdfcnghaaFnM
import Derived.Test.YtpipfobdfcnghaaFnH
namespace Go.Proofs.Ytpipfobdfcnghaa
set_option maxHeartbeats 4000000
set_option maxRecDepth 20000
open Go.Vm Go.RowKit
attribute [local irreducible] FnAt MutAt InAt JAt CurAt FnE CurE RegAt

def okC (id fr k : Int) : Bool := inR id 0 7 && inR fr 0 7 && !decide (id = fr) && inR k 1 2147483646
def long (b : List UInt8) : Bool := decide (14 < (b.length : Int))
def bodiesOk (l : List (List UInt8)) : Bool := !(l.any long) && decide ((l.length : Int) ≤ 16)
end Go.Proofs.Ytpipfobdfcnghaa
