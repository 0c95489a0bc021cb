/-
  No cell of these rows narrows 'for every input' (looked for: loops, veiled, ifaces, maps, wideKeys, modest, calm, conditions, laid).
  DERIVED. THE GIVEN ROWS OF THIS SEAT. 9 by the template 'for every input the law returns true; each argument reads behind the call as it read before'; 0 by the template 'total and deterministic' (their statements: YtmkgakabmffibaaTotals.lean).
  GIVEN WITH THE SEED: the statements are not yours to turn. If you find one false, say at which input.
  Laid BY PROGRAM, IN A SANDBOX (cutbox-rows.mjs): the forced cells as the released guide's own fill.sh prints them over the translation 4884d5f26a300aae… (all of the seat's roots in one cut). By AI agents, Wed Nov 11 2026. No macro, syntax, notation, axiom, sorry.
-/
import Derived.Test.YtmkgakabmffibaaChecked
import GoSem.Claim
import GoSem.ClaimJoined
import GoSem.ClaimMapViews
import Derived.JoinedTies
import Derived.KernelRfl
namespace Go.Proofs.Ytmkgakabmffibaa
/- THE CELL 'sum', in the pinned program and in every row, IS THE sha256 OF THE DUMP (.gsa) THAT YtmkgakabmffibaaProg.lean LOADS. Nothing in Lean hashes anything: it is a label: what it is worth is what the hold of that sum in a sandbox is worth. -/
noncomputable def Try.pinned : Pinned := { name := "ytmkgakabmffibaa", sum := "4884d5f26a300aae829928cdb62223e1ff0df54f2f262cf0c2c3bda21c902495", checked := Try.checked }
namespace Rows
def none {H : Type} : Left H := { results := [], args := [] }

/-- 'laws.FnExactClientWrite': WHATEVER THE INPUT: true; the input reads as it did. -/
def fnExactClientWriteSpec : ChangeSpec := { name := "fnExactClientWrite", fn := fun _ => fun
  | [d1, d2, d3] => { results := [.lit (.bool true)], args := [d1, d2, d3] }
  | _ => none }
def fnExactClientWriteRow : OpenClaim := { program := "ytmkgakabmffibaa", sum := "4884d5f26a300aae829928cdb62223e1ff0df54f2f262cf0c2c3bda21c902495", func := "loop.example/g00516/laws.FnExactClientWrite", spec := "fnExactClientWrite", unfollowed := true, recurses := true, apart := false }
def FnExactClientWriteSaid : Prop := fnExactClientWriteRow.holds Try.pinned (OpenSpec.ofChange fnExactClientWriteSpec)

/-- ITS FALSE NEIGHBOUR: 'it returns false'. Refute it at one input. -/
def fnExactClientWriteWrong : ChangeSpec := { name := "fnExactClientWrite", fn := fun _ => fun
  | [d1, d2, d3] => { results := [.lit (.bool false)], args := [d1, d2, d3] }
  | _ => none }
def FnExactClientWriteWrongFalsely : Prop := fnExactClientWriteRow.holds Try.pinned (OpenSpec.ofChange fnExactClientWriteWrong)

/-- 'laws.FnExactClientRead': WHATEVER THE INPUT: true; the input reads as it did. -/
def fnExactClientReadSpec : ChangeSpec := { name := "fnExactClientRead", fn := fun _ => fun
  | [d1, d2, d3, d4] => { results := [.lit (.bool true)], args := [d1, d2, d3, d4] }
  | _ => none }
def fnExactClientReadRow : OpenClaim := { program := "ytmkgakabmffibaa", sum := "4884d5f26a300aae829928cdb62223e1ff0df54f2f262cf0c2c3bda21c902495", func := "loop.example/g00516/laws.FnExactClientRead", spec := "fnExactClientRead", unfollowed := true, recurses := true, apart := false }
def FnExactClientReadSaid : Prop := fnExactClientReadRow.holds Try.pinned (OpenSpec.ofChange fnExactClientReadSpec)

/-- ITS FALSE NEIGHBOUR: 'it returns false'. Refute it at one input. -/
def fnExactClientReadWrong : ChangeSpec := { name := "fnExactClientRead", fn := fun _ => fun
  | [d1, d2, d3, d4] => { results := [.lit (.bool false)], args := [d1, d2, d3, d4] }
  | _ => none }
def FnExactClientReadWrongFalsely : Prop := fnExactClientReadRow.holds Try.pinned (OpenSpec.ofChange fnExactClientReadWrong)

/-- 'laws.FnExactAuditServer': WHATEVER THE INPUT: true; the input reads as it did. -/
def fnExactAuditServerSpec : ChangeSpec := { name := "fnExactAuditServer", fn := fun _ => fun
  | [d1, d2, d3, d4] => { results := [.lit (.bool true)], args := [d1, d2, d3, d4] }
  | _ => none }
def fnExactAuditServerRow : OpenClaim := { program := "ytmkgakabmffibaa", sum := "4884d5f26a300aae829928cdb62223e1ff0df54f2f262cf0c2c3bda21c902495", func := "loop.example/g00516/laws.FnExactAuditServer", spec := "fnExactAuditServer", unfollowed := true, recurses := true, apart := false }
def FnExactAuditServerSaid : Prop := fnExactAuditServerRow.holds Try.pinned (OpenSpec.ofChange fnExactAuditServerSpec)

/-- ITS FALSE NEIGHBOUR: 'it returns false'. Refute it at one input. -/
def fnExactAuditServerWrong : ChangeSpec := { name := "fnExactAuditServer", fn := fun _ => fun
  | [d1, d2, d3, d4] => { results := [.lit (.bool false)], args := [d1, d2, d3, d4] }
  | _ => none }
def FnExactAuditServerWrongFalsely : Prop := fnExactAuditServerRow.holds Try.pinned (OpenSpec.ofChange fnExactAuditServerWrong)

/-- 'laws.FnExactEqualWorlds': WHATEVER THE INPUT: true; the input reads as it did. -/
def fnExactEqualWorldsSpec : ChangeSpec := { name := "fnExactEqualWorlds", fn := fun _ => fun
  | [d1, d2] => { results := [.lit (.bool true)], args := [d1, d2] }
  | _ => none }
def fnExactEqualWorldsRow : OpenClaim := { program := "ytmkgakabmffibaa", sum := "4884d5f26a300aae829928cdb62223e1ff0df54f2f262cf0c2c3bda21c902495", func := "loop.example/g00516/laws.FnExactEqualWorlds", spec := "fnExactEqualWorlds", unfollowed := true, recurses := true, apart := false }
def FnExactEqualWorldsSaid : Prop := fnExactEqualWorldsRow.holds Try.pinned (OpenSpec.ofChange fnExactEqualWorldsSpec)

/-- ITS FALSE NEIGHBOUR: 'it returns false'. Refute it at one input. -/
def fnExactEqualWorldsWrong : ChangeSpec := { name := "fnExactEqualWorlds", fn := fun _ => fun
  | [d1, d2] => { results := [.lit (.bool false)], args := [d1, d2] }
  | _ => none }
def FnExactEqualWorldsWrongFalsely : Prop := fnExactEqualWorldsRow.holds Try.pinned (OpenSpec.ofChange fnExactEqualWorldsWrong)

/-- 'laws.FnExactReadOnDevice': WHATEVER THE INPUT: true; the input reads as it did. -/
def fnExactReadOnDeviceSpec : ChangeSpec := { name := "fnExactReadOnDevice", fn := fun _ => fun
  | [d1, d2, d3, d4] => { results := [.lit (.bool true)], args := [d1, d2, d3, d4] }
  | _ => none }
def fnExactReadOnDeviceRow : OpenClaim := { program := "ytmkgakabmffibaa", sum := "4884d5f26a300aae829928cdb62223e1ff0df54f2f262cf0c2c3bda21c902495", func := "loop.example/g00516/laws.FnExactReadOnDevice", spec := "fnExactReadOnDevice", unfollowed := true, recurses := true, apart := false }
def FnExactReadOnDeviceSaid : Prop := fnExactReadOnDeviceRow.holds Try.pinned (OpenSpec.ofChange fnExactReadOnDeviceSpec)

/-- ITS FALSE NEIGHBOUR: 'it returns false'. Refute it at one input. -/
def fnExactReadOnDeviceWrong : ChangeSpec := { name := "fnExactReadOnDevice", fn := fun _ => fun
  | [d1, d2, d3, d4] => { results := [.lit (.bool false)], args := [d1, d2, d3, d4] }
  | _ => none }
def FnExactReadOnDeviceWrongFalsely : Prop := fnExactReadOnDeviceRow.holds Try.pinned (OpenSpec.ofChange fnExactReadOnDeviceWrong)

/-- 'laws.FnExactWriteSeeds': WHATEVER THE INPUT: true; the input reads as it did. -/
def fnExactWriteSeedsSpec : ChangeSpec := { name := "fnExactWriteSeeds", fn := fun _ => fun
  | [d1, d2] => { results := [.lit (.bool true)], args := [d1, d2] }
  | _ => none }
def fnExactWriteSeedsRow : OpenClaim := { program := "ytmkgakabmffibaa", sum := "4884d5f26a300aae829928cdb62223e1ff0df54f2f262cf0c2c3bda21c902495", func := "loop.example/g00516/laws.FnExactWriteSeeds", spec := "fnExactWriteSeeds", apart := false }
def FnExactWriteSeedsSaid : Prop := fnExactWriteSeedsRow.holds Try.pinned (OpenSpec.ofChange fnExactWriteSeedsSpec)

/-- ITS FALSE NEIGHBOUR: 'it returns false'. Refute it at one input. -/
def fnExactWriteSeedsWrong : ChangeSpec := { name := "fnExactWriteSeeds", fn := fun _ => fun
  | [d1, d2] => { results := [.lit (.bool false)], args := [d1, d2] }
  | _ => none }
def FnExactWriteSeedsWrongFalsely : Prop := fnExactWriteSeedsRow.holds Try.pinned (OpenSpec.ofChange fnExactWriteSeedsWrong)

/-- 'laws.FnExactNewWorld': WHATEVER THE INPUT: true; the input reads as it did. -/
def fnExactNewWorldSpec : ChangeSpec := { name := "fnExactNewWorld", fn := fun _ => fun
  | [d1, d2, d3, d4] => { results := [.lit (.bool true)], args := [d1, d2, d3, d4] }
  | _ => none }
def fnExactNewWorldRow : OpenClaim := { program := "ytmkgakabmffibaa", sum := "4884d5f26a300aae829928cdb62223e1ff0df54f2f262cf0c2c3bda21c902495", func := "loop.example/g00516/laws.FnExactNewWorld", spec := "fnExactNewWorld", apart := false }
def FnExactNewWorldSaid : Prop := fnExactNewWorldRow.holds Try.pinned (OpenSpec.ofChange fnExactNewWorldSpec)

/-- ITS FALSE NEIGHBOUR: 'it returns false'. Refute it at one input. -/
def fnExactNewWorldWrong : ChangeSpec := { name := "fnExactNewWorld", fn := fun _ => fun
  | [d1, d2, d3, d4] => { results := [.lit (.bool false)], args := [d1, d2, d3, d4] }
  | _ => none }
def FnExactNewWorldWrongFalsely : Prop := fnExactNewWorldRow.holds Try.pinned (OpenSpec.ofChange fnExactNewWorldWrong)

/-- 'laws.FnExactIsValidWorld': WHATEVER THE INPUT: true; the input reads as it did. -/
def fnExactIsValidWorldSpec : ChangeSpec := { name := "fnExactIsValidWorld", fn := fun _ => fun
  | [d] => { results := [.lit (.bool true)], args := [d] }
  | _ => none }
def fnExactIsValidWorldRow : OpenClaim := { program := "ytmkgakabmffibaa", sum := "4884d5f26a300aae829928cdb62223e1ff0df54f2f262cf0c2c3bda21c902495", func := "loop.example/g00516/laws.FnExactIsValidWorld", spec := "fnExactIsValidWorld", unfollowed := true, recurses := true, apart := false }
def FnExactIsValidWorldSaid : Prop := fnExactIsValidWorldRow.holds Try.pinned (OpenSpec.ofChange fnExactIsValidWorldSpec)

/-- ITS FALSE NEIGHBOUR: 'it returns false'. Refute it at one input. -/
def fnExactIsValidWorldWrong : ChangeSpec := { name := "fnExactIsValidWorld", fn := fun _ => fun
  | [d] => { results := [.lit (.bool false)], args := [d] }
  | _ => none }
def FnExactIsValidWorldWrongFalsely : Prop := fnExactIsValidWorldRow.holds Try.pinned (OpenSpec.ofChange fnExactIsValidWorldWrong)

/-- 'laws.FnExactAuditRound': WHATEVER THE INPUT: true; the input reads as it did. -/
def fnExactAuditRoundSpec : ChangeSpec := { name := "fnExactAuditRound", fn := fun _ => fun
  | [d1, d2, d3, d4] => { results := [.lit (.bool true)], args := [d1, d2, d3, d4] }
  | _ => none }
def fnExactAuditRoundRow : OpenClaim := { program := "ytmkgakabmffibaa", sum := "4884d5f26a300aae829928cdb62223e1ff0df54f2f262cf0c2c3bda21c902495", func := "loop.example/g00516/laws.FnExactAuditRound", spec := "fnExactAuditRound", unfollowed := true, recurses := true, apart := false }
def FnExactAuditRoundSaid : Prop := fnExactAuditRoundRow.holds Try.pinned (OpenSpec.ofChange fnExactAuditRoundSpec)

/-- ITS FALSE NEIGHBOUR: 'it returns false'. Refute it at one input. -/
def fnExactAuditRoundWrong : ChangeSpec := { name := "fnExactAuditRound", fn := fun _ => fun
  | [d1, d2, d3, d4] => { results := [.lit (.bool false)], args := [d1, d2, d3, d4] }
  | _ => none }
def FnExactAuditRoundWrongFalsely : Prop := fnExactAuditRoundRow.holds Try.pinned (OpenSpec.ofChange fnExactAuditRoundWrong)

/- THE SECOND FORM. 'bulk': how many values and letters a reading holds, each counted each time it is reached (what is shared counts as often as it is met; a slice's spare places count too). A statement '..UptoSaid' is the law's where the arguments, and the package variables that the reading takes, are together of bulk at most 1048576: NARROWER than '..Said'. Prove '..Said' where nothing that the law and all that it calls make is longer than what came in: it says more and counts as full. Else prove '..UptoSaid'. A law counts once. -/
mutual
def uptoBulk {H : Type} : DataW H → Nat
  | .lit (.string bytes) => bytes.length + 1
  | .lit _ => 1
  | .nil => 1
  | .ptr d => uptoBulk d + 1
  | .slice elems spare => uptoBulkAll elems + uptoBulkAll spare + 1
  | .agg parts => uptoBulkAll parts + 1
  | .iface _ d => uptoBulk d + 1
  | .map entries => uptoBulkEntries entries + 1
  | .held _ => 1
def uptoBulkAll {H : Type} : List (DataW H) → Nat
  | [] => 0
  | d :: r => uptoBulk d + uptoBulkAll r
def uptoBulkEntries {H : Type} : List (Lit × DataW H) → Nat
  | [] => 0
  | x :: r => uptoBulkEntry x + uptoBulkEntries r
def uptoBulkEntry {H : Type} : Lit × DataW H → Nat
  | (.string bytes, d) => bytes.length + uptoBulk d + 1
  | (_, d) => uptoBulk d + 1
 end
def uptoSmall : (H : Type) → List (DataW H) → Bool := fun _ ds => decide (uptoBulkAll ds ≤ 1048576)
def OpenSpec.upto (s : _root_.Go.ChangeSpec) : _root_.Go.OpenSpec := { _root_.Go.OpenSpec.ofChange s with cond := some uptoSmall }

/-- 'laws.FnExactClientWrite', WHERE WHAT IT READS IS OF BULK AT MOST 1048576: true; the input reads as it did. -/
def fnExactClientWriteUptoRow : OpenClaim := { program := "ytmkgakabmffibaa", sum := "4884d5f26a300aae829928cdb62223e1ff0df54f2f262cf0c2c3bda21c902495", func := "loop.example/g00516/laws.FnExactClientWrite", spec := "fnExactClientWrite", unfollowed := true, recurses := true, apart := false, narrowed := true }
def FnExactClientWriteUptoSaid : Prop := fnExactClientWriteUptoRow.holds Try.pinned (OpenSpec.upto fnExactClientWriteSpec)

/-- 'laws.FnExactClientRead', WHERE WHAT IT READS IS OF BULK AT MOST 1048576: true; the input reads as it did. -/
def fnExactClientReadUptoRow : OpenClaim := { program := "ytmkgakabmffibaa", sum := "4884d5f26a300aae829928cdb62223e1ff0df54f2f262cf0c2c3bda21c902495", func := "loop.example/g00516/laws.FnExactClientRead", spec := "fnExactClientRead", unfollowed := true, recurses := true, apart := false, narrowed := true }
def FnExactClientReadUptoSaid : Prop := fnExactClientReadUptoRow.holds Try.pinned (OpenSpec.upto fnExactClientReadSpec)

/-- 'laws.FnExactAuditServer', WHERE WHAT IT READS IS OF BULK AT MOST 1048576: true; the input reads as it did. -/
def fnExactAuditServerUptoRow : OpenClaim := { program := "ytmkgakabmffibaa", sum := "4884d5f26a300aae829928cdb62223e1ff0df54f2f262cf0c2c3bda21c902495", func := "loop.example/g00516/laws.FnExactAuditServer", spec := "fnExactAuditServer", unfollowed := true, recurses := true, apart := false, narrowed := true }
def FnExactAuditServerUptoSaid : Prop := fnExactAuditServerUptoRow.holds Try.pinned (OpenSpec.upto fnExactAuditServerSpec)

/-- 'laws.FnExactEqualWorlds', WHERE WHAT IT READS IS OF BULK AT MOST 1048576: true; the input reads as it did. -/
def fnExactEqualWorldsUptoRow : OpenClaim := { program := "ytmkgakabmffibaa", sum := "4884d5f26a300aae829928cdb62223e1ff0df54f2f262cf0c2c3bda21c902495", func := "loop.example/g00516/laws.FnExactEqualWorlds", spec := "fnExactEqualWorlds", unfollowed := true, recurses := true, apart := false, narrowed := true }
def FnExactEqualWorldsUptoSaid : Prop := fnExactEqualWorldsUptoRow.holds Try.pinned (OpenSpec.upto fnExactEqualWorldsSpec)

/-- 'laws.FnExactReadOnDevice', WHERE WHAT IT READS IS OF BULK AT MOST 1048576: true; the input reads as it did. -/
def fnExactReadOnDeviceUptoRow : OpenClaim := { program := "ytmkgakabmffibaa", sum := "4884d5f26a300aae829928cdb62223e1ff0df54f2f262cf0c2c3bda21c902495", func := "loop.example/g00516/laws.FnExactReadOnDevice", spec := "fnExactReadOnDevice", unfollowed := true, recurses := true, apart := false, narrowed := true }
def FnExactReadOnDeviceUptoSaid : Prop := fnExactReadOnDeviceUptoRow.holds Try.pinned (OpenSpec.upto fnExactReadOnDeviceSpec)

/-- 'laws.FnExactWriteSeeds', WHERE WHAT IT READS IS OF BULK AT MOST 1048576: true; the input reads as it did. -/
def fnExactWriteSeedsUptoRow : OpenClaim := { program := "ytmkgakabmffibaa", sum := "4884d5f26a300aae829928cdb62223e1ff0df54f2f262cf0c2c3bda21c902495", func := "loop.example/g00516/laws.FnExactWriteSeeds", spec := "fnExactWriteSeeds", apart := false, narrowed := true }
def FnExactWriteSeedsUptoSaid : Prop := fnExactWriteSeedsUptoRow.holds Try.pinned (OpenSpec.upto fnExactWriteSeedsSpec)

/-- 'laws.FnExactNewWorld', WHERE WHAT IT READS IS OF BULK AT MOST 1048576: true; the input reads as it did. -/
def fnExactNewWorldUptoRow : OpenClaim := { program := "ytmkgakabmffibaa", sum := "4884d5f26a300aae829928cdb62223e1ff0df54f2f262cf0c2c3bda21c902495", func := "loop.example/g00516/laws.FnExactNewWorld", spec := "fnExactNewWorld", apart := false, narrowed := true }
def FnExactNewWorldUptoSaid : Prop := fnExactNewWorldUptoRow.holds Try.pinned (OpenSpec.upto fnExactNewWorldSpec)

/-- 'laws.FnExactIsValidWorld', WHERE WHAT IT READS IS OF BULK AT MOST 1048576: true; the input reads as it did. -/
def fnExactIsValidWorldUptoRow : OpenClaim := { program := "ytmkgakabmffibaa", sum := "4884d5f26a300aae829928cdb62223e1ff0df54f2f262cf0c2c3bda21c902495", func := "loop.example/g00516/laws.FnExactIsValidWorld", spec := "fnExactIsValidWorld", unfollowed := true, recurses := true, apart := false, narrowed := true }
def FnExactIsValidWorldUptoSaid : Prop := fnExactIsValidWorldUptoRow.holds Try.pinned (OpenSpec.upto fnExactIsValidWorldSpec)

/-- 'laws.FnExactAuditRound', WHERE WHAT IT READS IS OF BULK AT MOST 1048576: true; the input reads as it did. -/
def fnExactAuditRoundUptoRow : OpenClaim := { program := "ytmkgakabmffibaa", sum := "4884d5f26a300aae829928cdb62223e1ff0df54f2f262cf0c2c3bda21c902495", func := "loop.example/g00516/laws.FnExactAuditRound", spec := "fnExactAuditRound", unfollowed := true, recurses := true, apart := false, narrowed := true }
def FnExactAuditRoundUptoSaid : Prop := fnExactAuditRoundUptoRow.holds Try.pinned (OpenSpec.upto fnExactAuditRoundSpec)

end Rows
end Go.Proofs.Ytmkgakabmffibaa
