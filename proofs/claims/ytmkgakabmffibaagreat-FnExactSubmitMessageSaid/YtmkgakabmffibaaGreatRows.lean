/-
  No cell of these rows narrows 'for every input' (looked for: loops, veiled, ifaces, maps, wideKeys, modest, calm, conditions, laid).
  DERIVED. THE GIVEN ROWS OF THIS SEAT. 3 by the template 'for every input the law returns true; each argument reads behind the call as it read before'; 0 by the template 'total and deterministic' (their statements: YtmkgakabmffibaaGreatTotals.lean).
  GIVEN WITH THE SEED: the statements are not yours to turn. If you find one false, say at which input.
  Laid BY PROGRAM, IN A SANDBOX (cutbox-rows.mjs): the forced cells as the released guide's own fill.sh prints them over the translation e8f4309b458f82c4… (all of the seat's roots in one cut). By AI agents, Wed Nov 11 2026. No macro, syntax, notation, axiom, sorry.
-/
import Derived.Test.YtmkgakabmffibaaGreatChecked
import GoSem.Claim
import GoSem.ClaimJoined
import GoSem.ClaimMapViews
import Derived.JoinedTies
import Derived.KernelRfl
namespace Go.Proofs.YtmkgakabmffibaaGreat
/- THE CELL 'sum', in the pinned program and in every row, IS THE sha256 OF THE DUMP (.gsa) THAT YtmkgakabmffibaaGreatProg.lean LOADS. Nothing in Lean hashes anything: it is a label: what it is worth is what the hold of that sum in a sandbox is worth. -/
noncomputable def Tryz.pinned : Pinned := { name := "ytmkgakabmffibaagreat", sum := "e8f4309b458f82c4499d967b574345094736db60e45829e78226f8ba777b5182", checked := Tryz.checked }
namespace Rows
def none {H : Type} : Left H := { results := [], args := [] }

/-- 'laws.FnExactCorruptServer': WHATEVER THE INPUT: true; the input reads as it did. -/
def fnExactCorruptServerSpec : ChangeSpec := { name := "fnExactCorruptServer", fn := fun _ => fun
  | [d1, d2, d3] => { results := [.lit (.bool true)], args := [d1, d2, d3] }
  | _ => none }
def fnExactCorruptServerRow : OpenClaim := { program := "ytmkgakabmffibaagreat", sum := "e8f4309b458f82c4499d967b574345094736db60e45829e78226f8ba777b5182", func := "loop.example/g00516/laws.FnExactCorruptServer", spec := "fnExactCorruptServer", unfollowed := true, recurses := true, apart := false }
def FnExactCorruptServerSaid : Prop := fnExactCorruptServerRow.holds Tryz.pinned (OpenSpec.ofChange fnExactCorruptServerSpec)

/-- ITS FALSE NEIGHBOUR: 'it returns false'. Refute it at one input. -/
def fnExactCorruptServerWrong : ChangeSpec := { name := "fnExactCorruptServer", fn := fun _ => fun
  | [d1, d2, d3] => { results := [.lit (.bool false)], args := [d1, d2, d3] }
  | _ => none }
def FnExactCorruptServerWrongFalsely : Prop := fnExactCorruptServerRow.holds Tryz.pinned (OpenSpec.ofChange fnExactCorruptServerWrong)

/-- 'laws.FnExactCrashClient': WHATEVER THE INPUT: true; the input reads as it did. -/
def fnExactCrashClientSpec : ChangeSpec := { name := "fnExactCrashClient", fn := fun _ => fun
  | [d1, d2] => { results := [.lit (.bool true)], args := [d1, d2] }
  | _ => none }
def fnExactCrashClientRow : OpenClaim := { program := "ytmkgakabmffibaagreat", sum := "e8f4309b458f82c4499d967b574345094736db60e45829e78226f8ba777b5182", func := "loop.example/g00516/laws.FnExactCrashClient", spec := "fnExactCrashClient", unfollowed := true, recurses := true, apart := false }
def FnExactCrashClientSaid : Prop := fnExactCrashClientRow.holds Tryz.pinned (OpenSpec.ofChange fnExactCrashClientSpec)

/-- ITS FALSE NEIGHBOUR: 'it returns false'. Refute it at one input. -/
def fnExactCrashClientWrong : ChangeSpec := { name := "fnExactCrashClient", fn := fun _ => fun
  | [d1, d2] => { results := [.lit (.bool false)], args := [d1, d2] }
  | _ => none }
def FnExactCrashClientWrongFalsely : Prop := fnExactCrashClientRow.holds Tryz.pinned (OpenSpec.ofChange fnExactCrashClientWrong)

/-- 'laws.FnExactSubmitMessage': WHATEVER THE INPUT: true; the input reads as it did. -/
def fnExactSubmitMessageSpec : ChangeSpec := { name := "fnExactSubmitMessage", fn := fun _ => fun
  | [d1, d2, d3] => { results := [.lit (.bool true)], args := [d1, d2, d3] }
  | _ => none }
def fnExactSubmitMessageRow : OpenClaim := { program := "ytmkgakabmffibaagreat", sum := "e8f4309b458f82c4499d967b574345094736db60e45829e78226f8ba777b5182", func := "loop.example/g00516/laws.FnExactSubmitMessage", spec := "fnExactSubmitMessage", unfollowed := true, recurses := true, apart := false }
def FnExactSubmitMessageSaid : Prop := fnExactSubmitMessageRow.holds Tryz.pinned (OpenSpec.ofChange fnExactSubmitMessageSpec)

/-- ITS FALSE NEIGHBOUR: 'it returns false'. Refute it at one input. -/
def fnExactSubmitMessageWrong : ChangeSpec := { name := "fnExactSubmitMessage", fn := fun _ => fun
  | [d1, d2, d3] => { results := [.lit (.bool false)], args := [d1, d2, d3] }
  | _ => none }
def FnExactSubmitMessageWrongFalsely : Prop := fnExactSubmitMessageRow.holds Tryz.pinned (OpenSpec.ofChange fnExactSubmitMessageWrong)

/- THE SECOND FORM. 'bulk': how many values and letters a reading holds, each counted each time it is reached (what is shared counts as often as it is met; a slice's spare places count too). A statement '..UptoSaid' is the law's where the arguments, and the package variables that the reading takes, are together of bulk at most 1048576: NARROWER than '..Said'. Prove '..Said' where nothing that the law and all that it calls make is longer than what came in: it says more and counts as full. Else prove '..UptoSaid'. A law counts once. -/
mutual
def uptoBulk {H : Type} : DataW H → Nat
  | .lit (.string bytes) => bytes.length + 1
  | .lit _ => 1
  | .nil => 1
  | .ptr d => uptoBulk d + 1
  | .slice elems spare => uptoBulkAll elems + uptoBulkAll spare + 1
  | .agg parts => uptoBulkAll parts + 1
  | .iface _ d => uptoBulk d + 1
  | .map entries => uptoBulkEntries entries + 1
  | .held _ => 1
def uptoBulkAll {H : Type} : List (DataW H) → Nat
  | [] => 0
  | d :: r => uptoBulk d + uptoBulkAll r
def uptoBulkEntries {H : Type} : List (Lit × DataW H) → Nat
  | [] => 0
  | x :: r => uptoBulkEntry x + uptoBulkEntries r
def uptoBulkEntry {H : Type} : Lit × DataW H → Nat
  | (.string bytes, d) => bytes.length + uptoBulk d + 1
  | (_, d) => uptoBulk d + 1
 end
def uptoSmall : (H : Type) → List (DataW H) → Bool := fun _ ds => decide (uptoBulkAll ds ≤ 1048576)
def OpenSpec.upto (s : _root_.Go.ChangeSpec) : _root_.Go.OpenSpec := { _root_.Go.OpenSpec.ofChange s with cond := some uptoSmall }

/-- 'laws.FnExactCorruptServer', WHERE WHAT IT READS IS OF BULK AT MOST 1048576: true; the input reads as it did. -/
def fnExactCorruptServerUptoRow : OpenClaim := { program := "ytmkgakabmffibaagreat", sum := "e8f4309b458f82c4499d967b574345094736db60e45829e78226f8ba777b5182", func := "loop.example/g00516/laws.FnExactCorruptServer", spec := "fnExactCorruptServer", unfollowed := true, recurses := true, apart := false, narrowed := true }
def FnExactCorruptServerUptoSaid : Prop := fnExactCorruptServerUptoRow.holds Tryz.pinned (OpenSpec.upto fnExactCorruptServerSpec)

/-- 'laws.FnExactCrashClient', WHERE WHAT IT READS IS OF BULK AT MOST 1048576: true; the input reads as it did. -/
def fnExactCrashClientUptoRow : OpenClaim := { program := "ytmkgakabmffibaagreat", sum := "e8f4309b458f82c4499d967b574345094736db60e45829e78226f8ba777b5182", func := "loop.example/g00516/laws.FnExactCrashClient", spec := "fnExactCrashClient", unfollowed := true, recurses := true, apart := false, narrowed := true }
def FnExactCrashClientUptoSaid : Prop := fnExactCrashClientUptoRow.holds Tryz.pinned (OpenSpec.upto fnExactCrashClientSpec)

/-- 'laws.FnExactSubmitMessage', WHERE WHAT IT READS IS OF BULK AT MOST 1048576: true; the input reads as it did. -/
def fnExactSubmitMessageUptoRow : OpenClaim := { program := "ytmkgakabmffibaagreat", sum := "e8f4309b458f82c4499d967b574345094736db60e45829e78226f8ba777b5182", func := "loop.example/g00516/laws.FnExactSubmitMessage", spec := "fnExactSubmitMessage", unfollowed := true, recurses := true, apart := false, narrowed := true }
def FnExactSubmitMessageUptoSaid : Prop := fnExactSubmitMessageUptoRow.holds Tryz.pinned (OpenSpec.upto fnExactSubmitMessageSpec)

end Rows
end Go.Proofs.YtmkgakabmffibaaGreat
