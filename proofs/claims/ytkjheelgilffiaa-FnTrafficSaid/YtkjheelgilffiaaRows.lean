/-
  No cell of these rows narrows 'for every input' (looked for: loops, veiled, ifaces, maps, wideKeys, modest, calm, conditions, laid).
  DERIVED. THE GIVEN ROWS OF THIS SEAT. 12 by the template 'for every input the law returns true; each argument reads behind the call as it read before'; 0 by the template 'total and deterministic' (their statements: YtkjheelgilffiaaTotals.lean).
  GIVEN WITH THE SEED: the statements are not yours to turn. If you find one false, say at which input.
  Laid BY PROGRAM, IN A SANDBOX (cutbox-rows.mjs): the forced cells as the released guide's own fill.sh prints them over the translation 44dfe760cf01d301… (all of the seat's roots in one cut). By AI agents, Wed Nov 11 2026. No macro, syntax, notation, axiom, sorry.
-/
import Derived.Test.YtkjheelgilffiaaChecked
import GoSem.Claim
import GoSem.ClaimJoined
import GoSem.ClaimMapViews
import Derived.JoinedTies
import Derived.KernelRfl
namespace Go.Proofs.Ytkjheelgilffiaa
/- THE CELL 'sum', in the pinned program and in every row, IS THE sha256 OF THE DUMP (.gsa) THAT YtkjheelgilffiaaProg.lean LOADS. Nothing in Lean hashes anything: it is a label: what it is worth is what the hold of that sum in a sandbox is worth. -/
noncomputable def Try.pinned : Pinned := { name := "ytkjheelgilffiaa", sum := "44dfe760cf01d30152ff5b924ca338873f7180dac2468608e658b27c4283ae41", checked := Try.checked }
namespace Rows
def none {H : Type} : Left H := { results := [], args := [] }

/-- 'laws.FnExactShareSize': WHATEVER THE INPUT: true; the input reads as it did. -/
def fnExactShareSizeSpec : ChangeSpec := { name := "fnExactShareSize", fn := fun _ => fun
  | [d] => { results := [.lit (.bool true)], args := [d] }
  | _ => none }
def fnExactShareSizeRow : OpenClaim := { program := "ytkjheelgilffiaa", sum := "44dfe760cf01d30152ff5b924ca338873f7180dac2468608e658b27c4283ae41", func := "loop.example/g00516/laws.FnExactShareSize", spec := "fnExactShareSize", apart := false }
def FnExactShareSizeSaid : Prop := fnExactShareSizeRow.holds Try.pinned (OpenSpec.ofChange fnExactShareSizeSpec)

/-- ITS FALSE NEIGHBOUR: 'it returns false'. Refute it at one input. -/
def fnExactShareSizeWrong : ChangeSpec := { name := "fnExactShareSize", fn := fun _ => fun
  | [d] => { results := [.lit (.bool false)], args := [d] }
  | _ => none }
def FnExactShareSizeWrongFalsely : Prop := fnExactShareSizeRow.holds Try.pinned (OpenSpec.ofChange fnExactShareSizeWrong)

/-- 'laws.FnExactSelectionSize': WHATEVER THE INPUT: true; the input reads as it did. -/
def fnExactSelectionSizeSpec : ChangeSpec := { name := "fnExactSelectionSize", fn := fun _ => fun
  | [d] => { results := [.lit (.bool true)], args := [d] }
  | _ => none }
def fnExactSelectionSizeRow : OpenClaim := { program := "ytkjheelgilffiaa", sum := "44dfe760cf01d30152ff5b924ca338873f7180dac2468608e658b27c4283ae41", func := "loop.example/g00516/laws.FnExactSelectionSize", spec := "fnExactSelectionSize", apart := false }
def FnExactSelectionSizeSaid : Prop := fnExactSelectionSizeRow.holds Try.pinned (OpenSpec.ofChange fnExactSelectionSizeSpec)

/-- ITS FALSE NEIGHBOUR: 'it returns false'. Refute it at one input. -/
def fnExactSelectionSizeWrong : ChangeSpec := { name := "fnExactSelectionSize", fn := fun _ => fun
  | [d] => { results := [.lit (.bool false)], args := [d] }
  | _ => none }
def FnExactSelectionSizeWrongFalsely : Prop := fnExactSelectionSizeRow.holds Try.pinned (OpenSpec.ofChange fnExactSelectionSizeWrong)

/-- 'laws.FnExactTotalBytes': WHATEVER THE INPUT: true; the input reads as it did. -/
def fnExactTotalBytesSpec : ChangeSpec := { name := "fnExactTotalBytes", fn := fun _ => fun
  | [d] => { results := [.lit (.bool true)], args := [d] }
  | _ => none }
def fnExactTotalBytesRow : OpenClaim := { program := "ytkjheelgilffiaa", sum := "44dfe760cf01d30152ff5b924ca338873f7180dac2468608e658b27c4283ae41", func := "loop.example/g00516/laws.FnExactTotalBytes", spec := "fnExactTotalBytes", apart := false }
def FnExactTotalBytesSaid : Prop := fnExactTotalBytesRow.holds Try.pinned (OpenSpec.ofChange fnExactTotalBytesSpec)

/-- ITS FALSE NEIGHBOUR: 'it returns false'. Refute it at one input. -/
def fnExactTotalBytesWrong : ChangeSpec := { name := "fnExactTotalBytes", fn := fun _ => fun
  | [d] => { results := [.lit (.bool false)], args := [d] }
  | _ => none }
def FnExactTotalBytesWrongFalsely : Prop := fnExactTotalBytesRow.holds Try.pinned (OpenSpec.ofChange fnExactTotalBytesWrong)

/-- 'laws.FnExactBytesOf': WHATEVER THE INPUT: true; the input reads as it did. -/
def fnExactBytesOfSpec : ChangeSpec := { name := "fnExactBytesOf", fn := fun _ => fun
  | [d1, d2] => { results := [.lit (.bool true)], args := [d1, d2] }
  | _ => none }
def fnExactBytesOfRow : OpenClaim := { program := "ytkjheelgilffiaa", sum := "44dfe760cf01d30152ff5b924ca338873f7180dac2468608e658b27c4283ae41", func := "loop.example/g00516/laws.FnExactBytesOf", spec := "fnExactBytesOf", apart := false }
def FnExactBytesOfSaid : Prop := fnExactBytesOfRow.holds Try.pinned (OpenSpec.ofChange fnExactBytesOfSpec)

/-- ITS FALSE NEIGHBOUR: 'it returns false'. Refute it at one input. -/
def fnExactBytesOfWrong : ChangeSpec := { name := "fnExactBytesOf", fn := fun _ => fun
  | [d1, d2] => { results := [.lit (.bool false)], args := [d1, d2] }
  | _ => none }
def FnExactBytesOfWrongFalsely : Prop := fnExactBytesOfRow.holds Try.pinned (OpenSpec.ofChange fnExactBytesOfWrong)

/-- 'laws.FnExactEqualTransfers': WHATEVER THE INPUT: true; the input reads as it did. -/
def fnExactEqualTransfersSpec : ChangeSpec := { name := "fnExactEqualTransfers", fn := fun _ => fun
  | [d1, d2] => { results := [.lit (.bool true)], args := [d1, d2] }
  | _ => none }
def fnExactEqualTransfersRow : OpenClaim := { program := "ytkjheelgilffiaa", sum := "44dfe760cf01d30152ff5b924ca338873f7180dac2468608e658b27c4283ae41", func := "loop.example/g00516/laws.FnExactEqualTransfers", spec := "fnExactEqualTransfers", apart := false }
def FnExactEqualTransfersSaid : Prop := fnExactEqualTransfersRow.holds Try.pinned (OpenSpec.ofChange fnExactEqualTransfersSpec)

/-- ITS FALSE NEIGHBOUR: 'it returns false'. Refute it at one input. -/
def fnExactEqualTransfersWrong : ChangeSpec := { name := "fnExactEqualTransfers", fn := fun _ => fun
  | [d1, d2] => { results := [.lit (.bool false)], args := [d1, d2] }
  | _ => none }
def FnExactEqualTransfersWrongFalsely : Prop := fnExactEqualTransfersRow.holds Try.pinned (OpenSpec.ofChange fnExactEqualTransfersWrong)

/-- 'laws.FnExactWriteTransfers': WHATEVER THE INPUT: true; the input reads as it did. -/
def fnExactWriteTransfersSpec : ChangeSpec := { name := "fnExactWriteTransfers", fn := fun _ => fun
  | [d1, d2, d3] => { results := [.lit (.bool true)], args := [d1, d2, d3] }
  | _ => none }
def fnExactWriteTransfersRow : OpenClaim := { program := "ytkjheelgilffiaa", sum := "44dfe760cf01d30152ff5b924ca338873f7180dac2468608e658b27c4283ae41", func := "loop.example/g00516/laws.FnExactWriteTransfers", spec := "fnExactWriteTransfers", apart := false }
def FnExactWriteTransfersSaid : Prop := fnExactWriteTransfersRow.holds Try.pinned (OpenSpec.ofChange fnExactWriteTransfersSpec)

/-- ITS FALSE NEIGHBOUR: 'it returns false'. Refute it at one input. -/
def fnExactWriteTransfersWrong : ChangeSpec := { name := "fnExactWriteTransfers", fn := fun _ => fun
  | [d1, d2, d3] => { results := [.lit (.bool false)], args := [d1, d2, d3] }
  | _ => none }
def FnExactWriteTransfersWrongFalsely : Prop := fnExactWriteTransfersRow.holds Try.pinned (OpenSpec.ofChange fnExactWriteTransfersWrong)

/-- 'laws.FnTraffic': WHATEVER THE INPUT: true; the input reads as it did. -/
def fnTrafficSpec : ChangeSpec := { name := "fnTraffic", fn := fun _ => fun
  | [d] => { results := [.lit (.bool true)], args := [d] }
  | _ => none }
def fnTrafficRow : OpenClaim := { program := "ytkjheelgilffiaa", sum := "44dfe760cf01d30152ff5b924ca338873f7180dac2468608e658b27c4283ae41", func := "loop.example/g00516/laws.FnTraffic", spec := "fnTraffic", apart := false }
def FnTrafficSaid : Prop := fnTrafficRow.holds Try.pinned (OpenSpec.ofChange fnTrafficSpec)

/-- ITS FALSE NEIGHBOUR: 'it returns false'. Refute it at one input. -/
def fnTrafficWrong : ChangeSpec := { name := "fnTraffic", fn := fun _ => fun
  | [d] => { results := [.lit (.bool false)], args := [d] }
  | _ => none }
def FnTrafficWrongFalsely : Prop := fnTrafficRow.holds Try.pinned (OpenSpec.ofChange fnTrafficWrong)

/-- 'laws.FnExactPublishTransfers': WHATEVER THE INPUT: true; the input reads as it did. -/
def fnExactPublishTransfersSpec : ChangeSpec := { name := "fnExactPublishTransfers", fn := fun _ => fun
  | [d1, d2] => { results := [.lit (.bool true)], args := [d1, d2] }
  | _ => none }
def fnExactPublishTransfersRow : OpenClaim := { program := "ytkjheelgilffiaa", sum := "44dfe760cf01d30152ff5b924ca338873f7180dac2468608e658b27c4283ae41", func := "loop.example/g00516/laws.FnExactPublishTransfers", spec := "fnExactPublishTransfers", apart := false }
def FnExactPublishTransfersSaid : Prop := fnExactPublishTransfersRow.holds Try.pinned (OpenSpec.ofChange fnExactPublishTransfersSpec)

/-- ITS FALSE NEIGHBOUR: 'it returns false'. Refute it at one input. -/
def fnExactPublishTransfersWrong : ChangeSpec := { name := "fnExactPublishTransfers", fn := fun _ => fun
  | [d1, d2] => { results := [.lit (.bool false)], args := [d1, d2] }
  | _ => none }
def FnExactPublishTransfersWrongFalsely : Prop := fnExactPublishTransfersRow.holds Try.pinned (OpenSpec.ofChange fnExactPublishTransfersWrong)

/-- 'laws.FnExactReadTransfers': WHATEVER THE INPUT: true; the input reads as it did. -/
def fnExactReadTransfersSpec : ChangeSpec := { name := "fnExactReadTransfers", fn := fun _ => fun
  | [d1, d2, d3, d4] => { results := [.lit (.bool true)], args := [d1, d2, d3, d4] }
  | _ => none }
def fnExactReadTransfersRow : OpenClaim := { program := "ytkjheelgilffiaa", sum := "44dfe760cf01d30152ff5b924ca338873f7180dac2468608e658b27c4283ae41", func := "loop.example/g00516/laws.FnExactReadTransfers", spec := "fnExactReadTransfers", apart := false }
def FnExactReadTransfersSaid : Prop := fnExactReadTransfersRow.holds Try.pinned (OpenSpec.ofChange fnExactReadTransfersSpec)

/-- ITS FALSE NEIGHBOUR: 'it returns false'. Refute it at one input. -/
def fnExactReadTransfersWrong : ChangeSpec := { name := "fnExactReadTransfers", fn := fun _ => fun
  | [d1, d2, d3, d4] => { results := [.lit (.bool false)], args := [d1, d2, d3, d4] }
  | _ => none }
def FnExactReadTransfersWrongFalsely : Prop := fnExactReadTransfersRow.holds Try.pinned (OpenSpec.ofChange fnExactReadTransfersWrong)

/-- 'laws.FnExactWaitingMessages': WHATEVER THE INPUT: true; the input reads as it did. -/
def fnExactWaitingMessagesSpec : ChangeSpec := { name := "fnExactWaitingMessages", fn := fun _ => fun
  | [d] => { results := [.lit (.bool true)], args := [d] }
  | _ => none }
def fnExactWaitingMessagesRow : OpenClaim := { program := "ytkjheelgilffiaa", sum := "44dfe760cf01d30152ff5b924ca338873f7180dac2468608e658b27c4283ae41", func := "loop.example/g00516/laws.FnExactWaitingMessages", spec := "fnExactWaitingMessages", apart := false }
def FnExactWaitingMessagesSaid : Prop := fnExactWaitingMessagesRow.holds Try.pinned (OpenSpec.ofChange fnExactWaitingMessagesSpec)

/-- ITS FALSE NEIGHBOUR: 'it returns false'. Refute it at one input. -/
def fnExactWaitingMessagesWrong : ChangeSpec := { name := "fnExactWaitingMessages", fn := fun _ => fun
  | [d] => { results := [.lit (.bool false)], args := [d] }
  | _ => none }
def FnExactWaitingMessagesWrongFalsely : Prop := fnExactWaitingMessagesRow.holds Try.pinned (OpenSpec.ofChange fnExactWaitingMessagesWrong)

/-- 'laws.FnExactNewClient': WHATEVER THE INPUT: true; the input reads as it did. -/
def fnExactNewClientSpec : ChangeSpec := { name := "fnExactNewClient", fn := fun _ => fun
  | [d1, d2, d3, d4] => { results := [.lit (.bool true)], args := [d1, d2, d3, d4] }
  | _ => none }
def fnExactNewClientRow : OpenClaim := { program := "ytkjheelgilffiaa", sum := "44dfe760cf01d30152ff5b924ca338873f7180dac2468608e658b27c4283ae41", func := "loop.example/g00516/laws.FnExactNewClient", spec := "fnExactNewClient", apart := false }
def FnExactNewClientSaid : Prop := fnExactNewClientRow.holds Try.pinned (OpenSpec.ofChange fnExactNewClientSpec)

/-- ITS FALSE NEIGHBOUR: 'it returns false'. Refute it at one input. -/
def fnExactNewClientWrong : ChangeSpec := { name := "fnExactNewClient", fn := fun _ => fun
  | [d1, d2, d3, d4] => { results := [.lit (.bool false)], args := [d1, d2, d3, d4] }
  | _ => none }
def FnExactNewClientWrongFalsely : Prop := fnExactNewClientRow.holds Try.pinned (OpenSpec.ofChange fnExactNewClientWrong)

/-- 'laws.FnExactNewArchive': WHATEVER THE INPUT: true; the input reads as it did. -/
def fnExactNewArchiveSpec : ChangeSpec := { name := "fnExactNewArchive", fn := fun _ => fun
  | [d] => { results := [.lit (.bool true)], args := [d] }
  | _ => none }
def fnExactNewArchiveRow : OpenClaim := { program := "ytkjheelgilffiaa", sum := "44dfe760cf01d30152ff5b924ca338873f7180dac2468608e658b27c4283ae41", func := "loop.example/g00516/laws.FnExactNewArchive", spec := "fnExactNewArchive", apart := false }
def FnExactNewArchiveSaid : Prop := fnExactNewArchiveRow.holds Try.pinned (OpenSpec.ofChange fnExactNewArchiveSpec)

/-- ITS FALSE NEIGHBOUR: 'it returns false'. Refute it at one input. -/
def fnExactNewArchiveWrong : ChangeSpec := { name := "fnExactNewArchive", fn := fun _ => fun
  | [d] => { results := [.lit (.bool false)], args := [d] }
  | _ => none }
def FnExactNewArchiveWrongFalsely : Prop := fnExactNewArchiveRow.holds Try.pinned (OpenSpec.ofChange fnExactNewArchiveWrong)

/- THE SECOND FORM. 'bulk': how many values and letters a reading holds, each counted each time it is reached (what is shared counts as often as it is met; a slice's spare places count too). A statement '..UptoSaid' is the law's where the arguments, and the package variables that the reading takes, are together of bulk at most 1048576: NARROWER than '..Said'. Prove '..Said' where nothing that the law and all that it calls make is longer than what came in: it says more and counts as full. Else prove '..UptoSaid'. A law counts once. -/
mutual
def uptoBulk {H : Type} : DataW H → Nat
  | .lit (.string bytes) => bytes.length + 1
  | .lit _ => 1
  | .nil => 1
  | .ptr d => uptoBulk d + 1
  | .slice elems spare => uptoBulkAll elems + uptoBulkAll spare + 1
  | .agg parts => uptoBulkAll parts + 1
  | .iface _ d => uptoBulk d + 1
  | .map entries => uptoBulkEntries entries + 1
  | .held _ => 1
def uptoBulkAll {H : Type} : List (DataW H) → Nat
  | [] => 0
  | d :: r => uptoBulk d + uptoBulkAll r
def uptoBulkEntries {H : Type} : List (Lit × DataW H) → Nat
  | [] => 0
  | x :: r => uptoBulkEntry x + uptoBulkEntries r
def uptoBulkEntry {H : Type} : Lit × DataW H → Nat
  | (.string bytes, d) => bytes.length + uptoBulk d + 1
  | (_, d) => uptoBulk d + 1
 end
def uptoSmall : (H : Type) → List (DataW H) → Bool := fun _ ds => decide (uptoBulkAll ds ≤ 1048576)
def OpenSpec.upto (s : _root_.Go.ChangeSpec) : _root_.Go.OpenSpec := { _root_.Go.OpenSpec.ofChange s with cond := some uptoSmall }

/-- 'laws.FnExactShareSize', WHERE WHAT IT READS IS OF BULK AT MOST 1048576: true; the input reads as it did. -/
def fnExactShareSizeUptoRow : OpenClaim := { program := "ytkjheelgilffiaa", sum := "44dfe760cf01d30152ff5b924ca338873f7180dac2468608e658b27c4283ae41", func := "loop.example/g00516/laws.FnExactShareSize", spec := "fnExactShareSize", apart := false, narrowed := true }
def FnExactShareSizeUptoSaid : Prop := fnExactShareSizeUptoRow.holds Try.pinned (OpenSpec.upto fnExactShareSizeSpec)

/-- 'laws.FnExactSelectionSize', WHERE WHAT IT READS IS OF BULK AT MOST 1048576: true; the input reads as it did. -/
def fnExactSelectionSizeUptoRow : OpenClaim := { program := "ytkjheelgilffiaa", sum := "44dfe760cf01d30152ff5b924ca338873f7180dac2468608e658b27c4283ae41", func := "loop.example/g00516/laws.FnExactSelectionSize", spec := "fnExactSelectionSize", apart := false, narrowed := true }
def FnExactSelectionSizeUptoSaid : Prop := fnExactSelectionSizeUptoRow.holds Try.pinned (OpenSpec.upto fnExactSelectionSizeSpec)

/-- 'laws.FnExactTotalBytes', WHERE WHAT IT READS IS OF BULK AT MOST 1048576: true; the input reads as it did. -/
def fnExactTotalBytesUptoRow : OpenClaim := { program := "ytkjheelgilffiaa", sum := "44dfe760cf01d30152ff5b924ca338873f7180dac2468608e658b27c4283ae41", func := "loop.example/g00516/laws.FnExactTotalBytes", spec := "fnExactTotalBytes", apart := false, narrowed := true }
def FnExactTotalBytesUptoSaid : Prop := fnExactTotalBytesUptoRow.holds Try.pinned (OpenSpec.upto fnExactTotalBytesSpec)

/-- 'laws.FnExactBytesOf', WHERE WHAT IT READS IS OF BULK AT MOST 1048576: true; the input reads as it did. -/
def fnExactBytesOfUptoRow : OpenClaim := { program := "ytkjheelgilffiaa", sum := "44dfe760cf01d30152ff5b924ca338873f7180dac2468608e658b27c4283ae41", func := "loop.example/g00516/laws.FnExactBytesOf", spec := "fnExactBytesOf", apart := false, narrowed := true }
def FnExactBytesOfUptoSaid : Prop := fnExactBytesOfUptoRow.holds Try.pinned (OpenSpec.upto fnExactBytesOfSpec)

/-- 'laws.FnExactEqualTransfers', WHERE WHAT IT READS IS OF BULK AT MOST 1048576: true; the input reads as it did. -/
def fnExactEqualTransfersUptoRow : OpenClaim := { program := "ytkjheelgilffiaa", sum := "44dfe760cf01d30152ff5b924ca338873f7180dac2468608e658b27c4283ae41", func := "loop.example/g00516/laws.FnExactEqualTransfers", spec := "fnExactEqualTransfers", apart := false, narrowed := true }
def FnExactEqualTransfersUptoSaid : Prop := fnExactEqualTransfersUptoRow.holds Try.pinned (OpenSpec.upto fnExactEqualTransfersSpec)

/-- 'laws.FnExactWriteTransfers', WHERE WHAT IT READS IS OF BULK AT MOST 1048576: true; the input reads as it did. -/
def fnExactWriteTransfersUptoRow : OpenClaim := { program := "ytkjheelgilffiaa", sum := "44dfe760cf01d30152ff5b924ca338873f7180dac2468608e658b27c4283ae41", func := "loop.example/g00516/laws.FnExactWriteTransfers", spec := "fnExactWriteTransfers", apart := false, narrowed := true }
def FnExactWriteTransfersUptoSaid : Prop := fnExactWriteTransfersUptoRow.holds Try.pinned (OpenSpec.upto fnExactWriteTransfersSpec)

/-- 'laws.FnTraffic', WHERE WHAT IT READS IS OF BULK AT MOST 1048576: true; the input reads as it did. -/
def fnTrafficUptoRow : OpenClaim := { program := "ytkjheelgilffiaa", sum := "44dfe760cf01d30152ff5b924ca338873f7180dac2468608e658b27c4283ae41", func := "loop.example/g00516/laws.FnTraffic", spec := "fnTraffic", apart := false, narrowed := true }
def FnTrafficUptoSaid : Prop := fnTrafficUptoRow.holds Try.pinned (OpenSpec.upto fnTrafficSpec)

/-- 'laws.FnExactPublishTransfers', WHERE WHAT IT READS IS OF BULK AT MOST 1048576: true; the input reads as it did. -/
def fnExactPublishTransfersUptoRow : OpenClaim := { program := "ytkjheelgilffiaa", sum := "44dfe760cf01d30152ff5b924ca338873f7180dac2468608e658b27c4283ae41", func := "loop.example/g00516/laws.FnExactPublishTransfers", spec := "fnExactPublishTransfers", apart := false, narrowed := true }
def FnExactPublishTransfersUptoSaid : Prop := fnExactPublishTransfersUptoRow.holds Try.pinned (OpenSpec.upto fnExactPublishTransfersSpec)

/-- 'laws.FnExactReadTransfers', WHERE WHAT IT READS IS OF BULK AT MOST 1048576: true; the input reads as it did. -/
def fnExactReadTransfersUptoRow : OpenClaim := { program := "ytkjheelgilffiaa", sum := "44dfe760cf01d30152ff5b924ca338873f7180dac2468608e658b27c4283ae41", func := "loop.example/g00516/laws.FnExactReadTransfers", spec := "fnExactReadTransfers", apart := false, narrowed := true }
def FnExactReadTransfersUptoSaid : Prop := fnExactReadTransfersUptoRow.holds Try.pinned (OpenSpec.upto fnExactReadTransfersSpec)

/-- 'laws.FnExactWaitingMessages', WHERE WHAT IT READS IS OF BULK AT MOST 1048576: true; the input reads as it did. -/
def fnExactWaitingMessagesUptoRow : OpenClaim := { program := "ytkjheelgilffiaa", sum := "44dfe760cf01d30152ff5b924ca338873f7180dac2468608e658b27c4283ae41", func := "loop.example/g00516/laws.FnExactWaitingMessages", spec := "fnExactWaitingMessages", apart := false, narrowed := true }
def FnExactWaitingMessagesUptoSaid : Prop := fnExactWaitingMessagesUptoRow.holds Try.pinned (OpenSpec.upto fnExactWaitingMessagesSpec)

/-- 'laws.FnExactNewClient', WHERE WHAT IT READS IS OF BULK AT MOST 1048576: true; the input reads as it did. -/
def fnExactNewClientUptoRow : OpenClaim := { program := "ytkjheelgilffiaa", sum := "44dfe760cf01d30152ff5b924ca338873f7180dac2468608e658b27c4283ae41", func := "loop.example/g00516/laws.FnExactNewClient", spec := "fnExactNewClient", apart := false, narrowed := true }
def FnExactNewClientUptoSaid : Prop := fnExactNewClientUptoRow.holds Try.pinned (OpenSpec.upto fnExactNewClientSpec)

/-- 'laws.FnExactNewArchive', WHERE WHAT IT READS IS OF BULK AT MOST 1048576: true; the input reads as it did. -/
def fnExactNewArchiveUptoRow : OpenClaim := { program := "ytkjheelgilffiaa", sum := "44dfe760cf01d30152ff5b924ca338873f7180dac2468608e658b27c4283ae41", func := "loop.example/g00516/laws.FnExactNewArchive", spec := "fnExactNewArchive", apart := false, narrowed := true }
def FnExactNewArchiveUptoSaid : Prop := fnExactNewArchiveUptoRow.holds Try.pinned (OpenSpec.upto fnExactNewArchiveSpec)

end Rows
end Go.Proofs.Ytkjheelgilffiaa
