/-
  No cell of these rows narrows 'for every input' (looked for: loops, veiled, ifaces, maps, wideKeys, modest, calm, conditions, laid).
  DERIVED. THE GIVEN ROWS OF THIS SEAT. 4 by the template 'for every input the law returns true; each argument reads behind the call as it read before'; 0 by the template 'total and deterministic' (their statements: YtcoipmjboiegoaaTotals.lean).
  GIVEN WITH THE SEED: the statements are not yours to turn. If you find one false, say at which input.
  Laid BY PROGRAM, IN A SANDBOX (cutbox-rows.mjs): the forced cells as the released guide's own fill.sh prints them over the translation a7eb4c5fb3e56c92… (all of the seat's roots in one cut). By AI agents, Wed Nov 11 2026. No macro, syntax, notation, axiom, sorry.
-/
import Derived.Test.YtcoipmjboiegoaaChecked
import GoSem.Claim
import GoSem.ClaimJoined
import GoSem.ClaimMapViews
import Derived.JoinedTies
import Derived.KernelRfl
namespace Go.Proofs.Ytcoipmjboiegoaa
/- THE CELL 'sum', in the pinned program and in every row, IS THE sha256 OF THE DUMP (.gsa) THAT YtcoipmjboiegoaaProg.lean LOADS. Nothing in Lean hashes anything: it is a label: what it is worth is what the hold of that sum in a sandbox is worth. -/
noncomputable def Try.pinned : Pinned := { name := "ytcoipmjboiegoaa", sum := "a7eb4c5fb3e56c924edc8caffb323252b559f2323f2eda0bc1e4614ab065d64a", checked := Try.checked }
namespace Rows
def none {H : Type} : Left H := { results := [], args := [] }

/-- 'laws.FnArchives': WHATEVER THE INPUT: true; the input reads as it did. -/
def fnArchivesSpec : ChangeSpec := { name := "fnArchives", fn := fun _ => fun
  | [d] => { results := [.lit (.bool true)], args := [d] }
  | _ => none }
def fnArchivesRow : OpenClaim := { program := "ytcoipmjboiegoaa", sum := "a7eb4c5fb3e56c924edc8caffb323252b559f2323f2eda0bc1e4614ab065d64a", func := "loop.example/g00516/laws.FnArchives", spec := "fnArchives", unfollowed := true, recurses := true, apart := false }
def FnArchivesSaid : Prop := fnArchivesRow.holds Try.pinned (OpenSpec.ofChange fnArchivesSpec)

/-- ITS FALSE NEIGHBOUR: 'it returns false'. Refute it at one input. -/
def fnArchivesWrong : ChangeSpec := { name := "fnArchives", fn := fun _ => fun
  | [d] => { results := [.lit (.bool false)], args := [d] }
  | _ => none }
def FnArchivesWrongFalsely : Prop := fnArchivesRow.holds Try.pinned (OpenSpec.ofChange fnArchivesWrong)

/-- 'laws.FnExactPublishAll': WHATEVER THE INPUT: true; the input reads as it did. -/
def fnExactPublishAllSpec : ChangeSpec := { name := "fnExactPublishAll", fn := fun _ => fun
  | [d] => { results := [.lit (.bool true)], args := [d] }
  | _ => none }
def fnExactPublishAllRow : OpenClaim := { program := "ytcoipmjboiegoaa", sum := "a7eb4c5fb3e56c924edc8caffb323252b559f2323f2eda0bc1e4614ab065d64a", func := "loop.example/g00516/laws.FnExactPublishAll", spec := "fnExactPublishAll", unfollowed := true, recurses := true, apart := false }
def FnExactPublishAllSaid : Prop := fnExactPublishAllRow.holds Try.pinned (OpenSpec.ofChange fnExactPublishAllSpec)

/-- ITS FALSE NEIGHBOUR: 'it returns false'. Refute it at one input. -/
def fnExactPublishAllWrong : ChangeSpec := { name := "fnExactPublishAll", fn := fun _ => fun
  | [d] => { results := [.lit (.bool false)], args := [d] }
  | _ => none }
def FnExactPublishAllWrongFalsely : Prop := fnExactPublishAllRow.holds Try.pinned (OpenSpec.ofChange fnExactPublishAllWrong)

/-- 'laws.FnDevices': WHATEVER THE INPUT: true; the input reads as it did. -/
def fnDevicesSpec : ChangeSpec := { name := "fnDevices", fn := fun _ => fun
  | [d] => { results := [.lit (.bool true)], args := [d] }
  | _ => none }
def fnDevicesRow : OpenClaim := { program := "ytcoipmjboiegoaa", sum := "a7eb4c5fb3e56c924edc8caffb323252b559f2323f2eda0bc1e4614ab065d64a", func := "loop.example/g00516/laws.FnDevices", spec := "fnDevices", unfollowed := true, recurses := true, apart := false }
def FnDevicesSaid : Prop := fnDevicesRow.holds Try.pinned (OpenSpec.ofChange fnDevicesSpec)

/-- ITS FALSE NEIGHBOUR: 'it returns false'. Refute it at one input. -/
def fnDevicesWrong : ChangeSpec := { name := "fnDevices", fn := fun _ => fun
  | [d] => { results := [.lit (.bool false)], args := [d] }
  | _ => none }
def FnDevicesWrongFalsely : Prop := fnDevicesRow.holds Try.pinned (OpenSpec.ofChange fnDevicesWrong)

/-- 'laws.FnExactAuditAnswers': WHATEVER THE INPUT: true; the input reads as it did. -/
def fnExactAuditAnswersSpec : ChangeSpec := { name := "fnExactAuditAnswers", fn := fun _ => fun
  | [d1, d2, d3] => { results := [.lit (.bool true)], args := [d1, d2, d3] }
  | _ => none }
def fnExactAuditAnswersRow : OpenClaim := { program := "ytcoipmjboiegoaa", sum := "a7eb4c5fb3e56c924edc8caffb323252b559f2323f2eda0bc1e4614ab065d64a", func := "loop.example/g00516/laws.FnExactAuditAnswers", spec := "fnExactAuditAnswers", unfollowed := true, recurses := true, apart := false }
def FnExactAuditAnswersSaid : Prop := fnExactAuditAnswersRow.holds Try.pinned (OpenSpec.ofChange fnExactAuditAnswersSpec)

/-- ITS FALSE NEIGHBOUR: 'it returns false'. Refute it at one input. -/
def fnExactAuditAnswersWrong : ChangeSpec := { name := "fnExactAuditAnswers", fn := fun _ => fun
  | [d1, d2, d3] => { results := [.lit (.bool false)], args := [d1, d2, d3] }
  | _ => none }
def FnExactAuditAnswersWrongFalsely : Prop := fnExactAuditAnswersRow.holds Try.pinned (OpenSpec.ofChange fnExactAuditAnswersWrong)

/- THE SECOND FORM. 'bulk': how many values and letters a reading holds, each counted each time it is reached (what is shared counts as often as it is met; a slice's spare places count too). A statement '..UptoSaid' is the law's where the arguments, and the package variables that the reading takes, are together of bulk at most 1048576: NARROWER than '..Said'. Prove '..Said' where nothing that the law and all that it calls make is longer than what came in: it says more and counts as full. Else prove '..UptoSaid'. A law counts once. -/
mutual
def uptoBulk {H : Type} : DataW H → Nat
  | .lit (.string bytes) => bytes.length + 1
  | .lit _ => 1
  | .nil => 1
  | .ptr d => uptoBulk d + 1
  | .slice elems spare => uptoBulkAll elems + uptoBulkAll spare + 1
  | .agg parts => uptoBulkAll parts + 1
  | .iface _ d => uptoBulk d + 1
  | .map entries => uptoBulkEntries entries + 1
  | .held _ => 1
def uptoBulkAll {H : Type} : List (DataW H) → Nat
  | [] => 0
  | d :: r => uptoBulk d + uptoBulkAll r
def uptoBulkEntries {H : Type} : List (Lit × DataW H) → Nat
  | [] => 0
  | x :: r => uptoBulkEntry x + uptoBulkEntries r
def uptoBulkEntry {H : Type} : Lit × DataW H → Nat
  | (.string bytes, d) => bytes.length + uptoBulk d + 1
  | (_, d) => uptoBulk d + 1
 end
def uptoSmall : (H : Type) → List (DataW H) → Bool := fun _ ds => decide (uptoBulkAll ds ≤ 1048576)
def OpenSpec.upto (s : _root_.Go.ChangeSpec) : _root_.Go.OpenSpec := { _root_.Go.OpenSpec.ofChange s with cond := some uptoSmall }

/-- 'laws.FnArchives', WHERE WHAT IT READS IS OF BULK AT MOST 1048576: true; the input reads as it did. -/
def fnArchivesUptoRow : OpenClaim := { program := "ytcoipmjboiegoaa", sum := "a7eb4c5fb3e56c924edc8caffb323252b559f2323f2eda0bc1e4614ab065d64a", func := "loop.example/g00516/laws.FnArchives", spec := "fnArchives", unfollowed := true, recurses := true, apart := false, narrowed := true }
def FnArchivesUptoSaid : Prop := fnArchivesUptoRow.holds Try.pinned (OpenSpec.upto fnArchivesSpec)

/-- 'laws.FnExactPublishAll', WHERE WHAT IT READS IS OF BULK AT MOST 1048576: true; the input reads as it did. -/
def fnExactPublishAllUptoRow : OpenClaim := { program := "ytcoipmjboiegoaa", sum := "a7eb4c5fb3e56c924edc8caffb323252b559f2323f2eda0bc1e4614ab065d64a", func := "loop.example/g00516/laws.FnExactPublishAll", spec := "fnExactPublishAll", unfollowed := true, recurses := true, apart := false, narrowed := true }
def FnExactPublishAllUptoSaid : Prop := fnExactPublishAllUptoRow.holds Try.pinned (OpenSpec.upto fnExactPublishAllSpec)

/-- 'laws.FnDevices', WHERE WHAT IT READS IS OF BULK AT MOST 1048576: true; the input reads as it did. -/
def fnDevicesUptoRow : OpenClaim := { program := "ytcoipmjboiegoaa", sum := "a7eb4c5fb3e56c924edc8caffb323252b559f2323f2eda0bc1e4614ab065d64a", func := "loop.example/g00516/laws.FnDevices", spec := "fnDevices", unfollowed := true, recurses := true, apart := false, narrowed := true }
def FnDevicesUptoSaid : Prop := fnDevicesUptoRow.holds Try.pinned (OpenSpec.upto fnDevicesSpec)

/-- 'laws.FnExactAuditAnswers', WHERE WHAT IT READS IS OF BULK AT MOST 1048576: true; the input reads as it did. -/
def fnExactAuditAnswersUptoRow : OpenClaim := { program := "ytcoipmjboiegoaa", sum := "a7eb4c5fb3e56c924edc8caffb323252b559f2323f2eda0bc1e4614ab065d64a", func := "loop.example/g00516/laws.FnExactAuditAnswers", spec := "fnExactAuditAnswers", unfollowed := true, recurses := true, apart := false, narrowed := true }
def FnExactAuditAnswersUptoSaid : Prop := fnExactAuditAnswersUptoRow.holds Try.pinned (OpenSpec.upto fnExactAuditAnswersSpec)

end Rows
end Go.Proofs.Ytcoipmjboiegoaa
