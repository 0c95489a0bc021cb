/-
  No cell of these rows narrows 'for every input' (looked for: loops, veiled, ifaces, maps, wideKeys, modest, calm, conditions, laid).
  DERIVED. THE GIVEN ROWS OF THIS SEAT. 12 by the template 'for every input the law returns true; each argument reads behind the call as it read before'; 0 by the template 'total and deterministic' (their statements: YtnfamcbeoihpiaaTotals.lean).
  GIVEN WITH THE SEED: the statements are not yours to turn. If you find one false, say at which input.
  Laid BY PROGRAM, IN A SANDBOX (cutbox-rows.mjs): the forced cells as the released guide's own fill.sh prints them over the translation 3c01028a21671bd6… (all of the seat's roots in one cut). By AI agents, Wed Nov 11 2026. No macro, syntax, notation, axiom, sorry.
-/
import Derived.Test.YtnfamcbeoihpiaaChecked
import GoSem.Claim
import GoSem.ClaimJoined
import GoSem.ClaimMapViews
import Derived.JoinedTies
import Derived.KernelRfl
namespace Go.Proofs.Ytnfamcbeoihpiaa
/- THE CELL 'sum', in the pinned program and in every row, IS THE sha256 OF THE DUMP (.gsa) THAT YtnfamcbeoihpiaaProg.lean LOADS. Nothing in Lean hashes anything: it is a label: what it is worth is what the hold of that sum in a sandbox is worth. -/
noncomputable def Try.pinned : Pinned := { name := "ytnfamcbeoihpiaa", sum := "3c01028a21671bd6b7922382850328df6797088a9dbbc939c31e9a790b68f6f4", checked := Try.checked }
namespace Rows
def none {H : Type} : Left H := { results := [], args := [] }

/-- 'laws.FnExactArchivedDatabase': WHATEVER THE INPUT: true; the input reads as it did. -/
def fnExactArchivedDatabaseSpec : ChangeSpec := { name := "fnExactArchivedDatabase", fn := fun _ => fun
  | [d1, d2] => { results := [.lit (.bool true)], args := [d1, d2] }
  | _ => none }
def fnExactArchivedDatabaseRow : OpenClaim := { program := "ytnfamcbeoihpiaa", sum := "3c01028a21671bd6b7922382850328df6797088a9dbbc939c31e9a790b68f6f4", func := "loop.example/g00516/laws.FnExactArchivedDatabase", spec := "fnExactArchivedDatabase", apart := false }
def FnExactArchivedDatabaseSaid : Prop := fnExactArchivedDatabaseRow.holds Try.pinned (OpenSpec.ofChange fnExactArchivedDatabaseSpec)

/-- ITS FALSE NEIGHBOUR: 'it returns false'. Refute it at one input. -/
def fnExactArchivedDatabaseWrong : ChangeSpec := { name := "fnExactArchivedDatabase", fn := fun _ => fun
  | [d1, d2] => { results := [.lit (.bool false)], args := [d1, d2] }
  | _ => none }
def FnExactArchivedDatabaseWrongFalsely : Prop := fnExactArchivedDatabaseRow.holds Try.pinned (OpenSpec.ofChange fnExactArchivedDatabaseWrong)

/-- 'laws.FnFriends': WHATEVER THE INPUT: true; the input reads as it did. -/
def fnFriendsSpec : ChangeSpec := { name := "fnFriends", fn := fun _ => fun
  | [d] => { results := [.lit (.bool true)], args := [d] }
  | _ => none }
def fnFriendsRow : OpenClaim := { program := "ytnfamcbeoihpiaa", sum := "3c01028a21671bd6b7922382850328df6797088a9dbbc939c31e9a790b68f6f4", func := "loop.example/g00516/laws.FnFriends", spec := "fnFriends", unfollowed := true, recurses := true, apart := false }
def FnFriendsSaid : Prop := fnFriendsRow.holds Try.pinned (OpenSpec.ofChange fnFriendsSpec)

/-- ITS FALSE NEIGHBOUR: 'it returns false'. Refute it at one input. -/
def fnFriendsWrong : ChangeSpec := { name := "fnFriends", fn := fun _ => fun
  | [d] => { results := [.lit (.bool false)], args := [d] }
  | _ => none }
def FnFriendsWrongFalsely : Prop := fnFriendsRow.holds Try.pinned (OpenSpec.ofChange fnFriendsWrong)

/-- 'laws.FnArchives': WHATEVER THE INPUT: true; the input reads as it did. -/
def fnArchivesSpec : ChangeSpec := { name := "fnArchives", fn := fun _ => fun
  | [d] => { results := [.lit (.bool true)], args := [d] }
  | _ => none }
def fnArchivesRow : OpenClaim := { program := "ytnfamcbeoihpiaa", sum := "3c01028a21671bd6b7922382850328df6797088a9dbbc939c31e9a790b68f6f4", func := "loop.example/g00516/laws.FnArchives", spec := "fnArchives", unfollowed := true, recurses := true, apart := false }
def FnArchivesSaid : Prop := fnArchivesRow.holds Try.pinned (OpenSpec.ofChange fnArchivesSpec)

/-- ITS FALSE NEIGHBOUR: 'it returns false'. Refute it at one input. -/
def fnArchivesWrong : ChangeSpec := { name := "fnArchives", fn := fun _ => fun
  | [d] => { results := [.lit (.bool false)], args := [d] }
  | _ => none }
def FnArchivesWrongFalsely : Prop := fnArchivesRow.holds Try.pinned (OpenSpec.ofChange fnArchivesWrong)

/-- 'laws.FnExactRoundDatabase': WHATEVER THE INPUT: true; the input reads as it did. -/
def fnExactRoundDatabaseSpec : ChangeSpec := { name := "fnExactRoundDatabase", fn := fun _ => fun
  | [d] => { results := [.lit (.bool true)], args := [d] }
  | _ => none }
def fnExactRoundDatabaseRow : OpenClaim := { program := "ytnfamcbeoihpiaa", sum := "3c01028a21671bd6b7922382850328df6797088a9dbbc939c31e9a790b68f6f4", func := "loop.example/g00516/laws.FnExactRoundDatabase", spec := "fnExactRoundDatabase", unfollowed := true, recurses := true, apart := false }
def FnExactRoundDatabaseSaid : Prop := fnExactRoundDatabaseRow.holds Try.pinned (OpenSpec.ofChange fnExactRoundDatabaseSpec)

/-- ITS FALSE NEIGHBOUR: 'it returns false'. Refute it at one input. -/
def fnExactRoundDatabaseWrong : ChangeSpec := { name := "fnExactRoundDatabase", fn := fun _ => fun
  | [d] => { results := [.lit (.bool false)], args := [d] }
  | _ => none }
def FnExactRoundDatabaseWrongFalsely : Prop := fnExactRoundDatabaseRow.holds Try.pinned (OpenSpec.ofChange fnExactRoundDatabaseWrong)

/-- 'laws.FnExactAddRound': WHATEVER THE INPUT: true; the input reads as it did. -/
def fnExactAddRoundSpec : ChangeSpec := { name := "fnExactAddRound", fn := fun _ => fun
  | [d1, d2, d3] => { results := [.lit (.bool true)], args := [d1, d2, d3] }
  | _ => none }
def fnExactAddRoundRow : OpenClaim := { program := "ytnfamcbeoihpiaa", sum := "3c01028a21671bd6b7922382850328df6797088a9dbbc939c31e9a790b68f6f4", func := "loop.example/g00516/laws.FnExactAddRound", spec := "fnExactAddRound", unfollowed := true, recurses := true, apart := false }
def FnExactAddRoundSaid : Prop := fnExactAddRoundRow.holds Try.pinned (OpenSpec.ofChange fnExactAddRoundSpec)

/-- ITS FALSE NEIGHBOUR: 'it returns false'. Refute it at one input. -/
def fnExactAddRoundWrong : ChangeSpec := { name := "fnExactAddRound", fn := fun _ => fun
  | [d1, d2, d3] => { results := [.lit (.bool false)], args := [d1, d2, d3] }
  | _ => none }
def FnExactAddRoundWrongFalsely : Prop := fnExactAddRoundRow.holds Try.pinned (OpenSpec.ofChange fnExactAddRoundWrong)

/-- 'laws.FnExactCrashDevice': WHATEVER THE INPUT: true; the input reads as it did. -/
def fnExactCrashDeviceSpec : ChangeSpec := { name := "fnExactCrashDevice", fn := fun _ => fun
  | [d] => { results := [.lit (.bool true)], args := [d] }
  | _ => none }
def fnExactCrashDeviceRow : OpenClaim := { program := "ytnfamcbeoihpiaa", sum := "3c01028a21671bd6b7922382850328df6797088a9dbbc939c31e9a790b68f6f4", func := "loop.example/g00516/laws.FnExactCrashDevice", spec := "fnExactCrashDevice", unfollowed := true, recurses := true, apart := false }
def FnExactCrashDeviceSaid : Prop := fnExactCrashDeviceRow.holds Try.pinned (OpenSpec.ofChange fnExactCrashDeviceSpec)

/-- ITS FALSE NEIGHBOUR: 'it returns false'. Refute it at one input. -/
def fnExactCrashDeviceWrong : ChangeSpec := { name := "fnExactCrashDevice", fn := fun _ => fun
  | [d] => { results := [.lit (.bool false)], args := [d] }
  | _ => none }
def FnExactCrashDeviceWrongFalsely : Prop := fnExactCrashDeviceRow.holds Try.pinned (OpenSpec.ofChange fnExactCrashDeviceWrong)

/-- 'laws.FnExactSaveDevice': WHATEVER THE INPUT: true; the input reads as it did. -/
def fnExactSaveDeviceSpec : ChangeSpec := { name := "fnExactSaveDevice", fn := fun _ => fun
  | [d] => { results := [.lit (.bool true)], args := [d] }
  | _ => none }
def fnExactSaveDeviceRow : OpenClaim := { program := "ytnfamcbeoihpiaa", sum := "3c01028a21671bd6b7922382850328df6797088a9dbbc939c31e9a790b68f6f4", func := "loop.example/g00516/laws.FnExactSaveDevice", spec := "fnExactSaveDevice", unfollowed := true, recurses := true, apart := false }
def FnExactSaveDeviceSaid : Prop := fnExactSaveDeviceRow.holds Try.pinned (OpenSpec.ofChange fnExactSaveDeviceSpec)

/-- ITS FALSE NEIGHBOUR: 'it returns false'. Refute it at one input. -/
def fnExactSaveDeviceWrong : ChangeSpec := { name := "fnExactSaveDevice", fn := fun _ => fun
  | [d] => { results := [.lit (.bool false)], args := [d] }
  | _ => none }
def FnExactSaveDeviceWrongFalsely : Prop := fnExactSaveDeviceRow.holds Try.pinned (OpenSpec.ofChange fnExactSaveDeviceWrong)

/-- 'laws.FnExactSubmitToDevice': WHATEVER THE INPUT: true; the input reads as it did. -/
def fnExactSubmitToDeviceSpec : ChangeSpec := { name := "fnExactSubmitToDevice", fn := fun _ => fun
  | [d1, d2] => { results := [.lit (.bool true)], args := [d1, d2] }
  | _ => none }
def fnExactSubmitToDeviceRow : OpenClaim := { program := "ytnfamcbeoihpiaa", sum := "3c01028a21671bd6b7922382850328df6797088a9dbbc939c31e9a790b68f6f4", func := "loop.example/g00516/laws.FnExactSubmitToDevice", spec := "fnExactSubmitToDevice", unfollowed := true, recurses := true, apart := false }
def FnExactSubmitToDeviceSaid : Prop := fnExactSubmitToDeviceRow.holds Try.pinned (OpenSpec.ofChange fnExactSubmitToDeviceSpec)

/-- ITS FALSE NEIGHBOUR: 'it returns false'. Refute it at one input. -/
def fnExactSubmitToDeviceWrong : ChangeSpec := { name := "fnExactSubmitToDevice", fn := fun _ => fun
  | [d1, d2] => { results := [.lit (.bool false)], args := [d1, d2] }
  | _ => none }
def FnExactSubmitToDeviceWrongFalsely : Prop := fnExactSubmitToDeviceRow.holds Try.pinned (OpenSpec.ofChange fnExactSubmitToDeviceWrong)

/-- 'laws.FnExactClientWrite': WHATEVER THE INPUT: true; the input reads as it did. -/
def fnExactClientWriteSpec : ChangeSpec := { name := "fnExactClientWrite", fn := fun _ => fun
  | [d1, d2, d3] => { results := [.lit (.bool true)], args := [d1, d2, d3] }
  | _ => none }
def fnExactClientWriteRow : OpenClaim := { program := "ytnfamcbeoihpiaa", sum := "3c01028a21671bd6b7922382850328df6797088a9dbbc939c31e9a790b68f6f4", func := "loop.example/g00516/laws.FnExactClientWrite", spec := "fnExactClientWrite", unfollowed := true, recurses := true, apart := false }
def FnExactClientWriteSaid : Prop := fnExactClientWriteRow.holds Try.pinned (OpenSpec.ofChange fnExactClientWriteSpec)

/-- ITS FALSE NEIGHBOUR: 'it returns false'. Refute it at one input. -/
def fnExactClientWriteWrong : ChangeSpec := { name := "fnExactClientWrite", fn := fun _ => fun
  | [d1, d2, d3] => { results := [.lit (.bool false)], args := [d1, d2, d3] }
  | _ => none }
def FnExactClientWriteWrongFalsely : Prop := fnExactClientWriteRow.holds Try.pinned (OpenSpec.ofChange fnExactClientWriteWrong)

/-- 'laws.FnExactPublishAll': WHATEVER THE INPUT: true; the input reads as it did. -/
def fnExactPublishAllSpec : ChangeSpec := { name := "fnExactPublishAll", fn := fun _ => fun
  | [d] => { results := [.lit (.bool true)], args := [d] }
  | _ => none }
def fnExactPublishAllRow : OpenClaim := { program := "ytnfamcbeoihpiaa", sum := "3c01028a21671bd6b7922382850328df6797088a9dbbc939c31e9a790b68f6f4", func := "loop.example/g00516/laws.FnExactPublishAll", spec := "fnExactPublishAll", unfollowed := true, recurses := true, apart := false }
def FnExactPublishAllSaid : Prop := fnExactPublishAllRow.holds Try.pinned (OpenSpec.ofChange fnExactPublishAllSpec)

/-- ITS FALSE NEIGHBOUR: 'it returns false'. Refute it at one input. -/
def fnExactPublishAllWrong : ChangeSpec := { name := "fnExactPublishAll", fn := fun _ => fun
  | [d] => { results := [.lit (.bool false)], args := [d] }
  | _ => none }
def FnExactPublishAllWrongFalsely : Prop := fnExactPublishAllRow.holds Try.pinned (OpenSpec.ofChange fnExactPublishAllWrong)

/-- 'laws.FnExactIsSpoiled': WHATEVER THE INPUT: true; the input reads as it did. -/
def fnExactIsSpoiledSpec : ChangeSpec := { name := "fnExactIsSpoiled", fn := fun _ => fun
  | [d1, d2] => { results := [.lit (.bool true)], args := [d1, d2] }
  | _ => none }
def fnExactIsSpoiledRow : OpenClaim := { program := "ytnfamcbeoihpiaa", sum := "3c01028a21671bd6b7922382850328df6797088a9dbbc939c31e9a790b68f6f4", func := "loop.example/g00516/laws.FnExactIsSpoiled", spec := "fnExactIsSpoiled", unfollowed := true, recurses := true, apart := false }
def FnExactIsSpoiledSaid : Prop := fnExactIsSpoiledRow.holds Try.pinned (OpenSpec.ofChange fnExactIsSpoiledSpec)

/-- ITS FALSE NEIGHBOUR: 'it returns false'. Refute it at one input. -/
def fnExactIsSpoiledWrong : ChangeSpec := { name := "fnExactIsSpoiled", fn := fun _ => fun
  | [d1, d2] => { results := [.lit (.bool false)], args := [d1, d2] }
  | _ => none }
def FnExactIsSpoiledWrongFalsely : Prop := fnExactIsSpoiledRow.holds Try.pinned (OpenSpec.ofChange fnExactIsSpoiledWrong)

/-- 'laws.FnExactClientRead': WHATEVER THE INPUT: true; the input reads as it did. -/
def fnExactClientReadSpec : ChangeSpec := { name := "fnExactClientRead", fn := fun _ => fun
  | [d1, d2, d3, d4] => { results := [.lit (.bool true)], args := [d1, d2, d3, d4] }
  | _ => none }
def fnExactClientReadRow : OpenClaim := { program := "ytnfamcbeoihpiaa", sum := "3c01028a21671bd6b7922382850328df6797088a9dbbc939c31e9a790b68f6f4", func := "loop.example/g00516/laws.FnExactClientRead", spec := "fnExactClientRead", unfollowed := true, recurses := true, apart := false }
def FnExactClientReadSaid : Prop := fnExactClientReadRow.holds Try.pinned (OpenSpec.ofChange fnExactClientReadSpec)

/-- ITS FALSE NEIGHBOUR: 'it returns false'. Refute it at one input. -/
def fnExactClientReadWrong : ChangeSpec := { name := "fnExactClientRead", fn := fun _ => fun
  | [d1, d2, d3, d4] => { results := [.lit (.bool false)], args := [d1, d2, d3, d4] }
  | _ => none }
def FnExactClientReadWrongFalsely : Prop := fnExactClientReadRow.holds Try.pinned (OpenSpec.ofChange fnExactClientReadWrong)

/- THE SECOND FORM. 'bulk': how many values and letters a reading holds, each counted each time it is reached (what is shared counts as often as it is met; a slice's spare places count too). A statement '..UptoSaid' is the law's where the arguments, and the package variables that the reading takes, are together of bulk at most 1048576: NARROWER than '..Said'. Prove '..Said' where nothing that the law and all that it calls make is longer than what came in: it says more and counts as full. Else prove '..UptoSaid'. A law counts once. -/
mutual
def uptoBulk {H : Type} : DataW H → Nat
  | .lit (.string bytes) => bytes.length + 1
  | .lit _ => 1
  | .nil => 1
  | .ptr d => uptoBulk d + 1
  | .slice elems spare => uptoBulkAll elems + uptoBulkAll spare + 1
  | .agg parts => uptoBulkAll parts + 1
  | .iface _ d => uptoBulk d + 1
  | .map entries => uptoBulkEntries entries + 1
  | .held _ => 1
def uptoBulkAll {H : Type} : List (DataW H) → Nat
  | [] => 0
  | d :: r => uptoBulk d + uptoBulkAll r
def uptoBulkEntries {H : Type} : List (Lit × DataW H) → Nat
  | [] => 0
  | x :: r => uptoBulkEntry x + uptoBulkEntries r
def uptoBulkEntry {H : Type} : Lit × DataW H → Nat
  | (.string bytes, d) => bytes.length + uptoBulk d + 1
  | (_, d) => uptoBulk d + 1
 end
def uptoSmall : (H : Type) → List (DataW H) → Bool := fun _ ds => decide (uptoBulkAll ds ≤ 1048576)
def OpenSpec.upto (s : _root_.Go.ChangeSpec) : _root_.Go.OpenSpec := { _root_.Go.OpenSpec.ofChange s with cond := some uptoSmall }

/-- 'laws.FnExactArchivedDatabase', WHERE WHAT IT READS IS OF BULK AT MOST 1048576: true; the input reads as it did. -/
def fnExactArchivedDatabaseUptoRow : OpenClaim := { program := "ytnfamcbeoihpiaa", sum := "3c01028a21671bd6b7922382850328df6797088a9dbbc939c31e9a790b68f6f4", func := "loop.example/g00516/laws.FnExactArchivedDatabase", spec := "fnExactArchivedDatabase", apart := false, narrowed := true }
def FnExactArchivedDatabaseUptoSaid : Prop := fnExactArchivedDatabaseUptoRow.holds Try.pinned (OpenSpec.upto fnExactArchivedDatabaseSpec)

/-- 'laws.FnFriends', WHERE WHAT IT READS IS OF BULK AT MOST 1048576: true; the input reads as it did. -/
def fnFriendsUptoRow : OpenClaim := { program := "ytnfamcbeoihpiaa", sum := "3c01028a21671bd6b7922382850328df6797088a9dbbc939c31e9a790b68f6f4", func := "loop.example/g00516/laws.FnFriends", spec := "fnFriends", unfollowed := true, recurses := true, apart := false, narrowed := true }
def FnFriendsUptoSaid : Prop := fnFriendsUptoRow.holds Try.pinned (OpenSpec.upto fnFriendsSpec)

/-- 'laws.FnArchives', WHERE WHAT IT READS IS OF BULK AT MOST 1048576: true; the input reads as it did. -/
def fnArchivesUptoRow : OpenClaim := { program := "ytnfamcbeoihpiaa", sum := "3c01028a21671bd6b7922382850328df6797088a9dbbc939c31e9a790b68f6f4", func := "loop.example/g00516/laws.FnArchives", spec := "fnArchives", unfollowed := true, recurses := true, apart := false, narrowed := true }
def FnArchivesUptoSaid : Prop := fnArchivesUptoRow.holds Try.pinned (OpenSpec.upto fnArchivesSpec)

/-- 'laws.FnExactRoundDatabase', WHERE WHAT IT READS IS OF BULK AT MOST 1048576: true; the input reads as it did. -/
def fnExactRoundDatabaseUptoRow : OpenClaim := { program := "ytnfamcbeoihpiaa", sum := "3c01028a21671bd6b7922382850328df6797088a9dbbc939c31e9a790b68f6f4", func := "loop.example/g00516/laws.FnExactRoundDatabase", spec := "fnExactRoundDatabase", unfollowed := true, recurses := true, apart := false, narrowed := true }
def FnExactRoundDatabaseUptoSaid : Prop := fnExactRoundDatabaseUptoRow.holds Try.pinned (OpenSpec.upto fnExactRoundDatabaseSpec)

/-- 'laws.FnExactAddRound', WHERE WHAT IT READS IS OF BULK AT MOST 1048576: true; the input reads as it did. -/
def fnExactAddRoundUptoRow : OpenClaim := { program := "ytnfamcbeoihpiaa", sum := "3c01028a21671bd6b7922382850328df6797088a9dbbc939c31e9a790b68f6f4", func := "loop.example/g00516/laws.FnExactAddRound", spec := "fnExactAddRound", unfollowed := true, recurses := true, apart := false, narrowed := true }
def FnExactAddRoundUptoSaid : Prop := fnExactAddRoundUptoRow.holds Try.pinned (OpenSpec.upto fnExactAddRoundSpec)

/-- 'laws.FnExactCrashDevice', WHERE WHAT IT READS IS OF BULK AT MOST 1048576: true; the input reads as it did. -/
def fnExactCrashDeviceUptoRow : OpenClaim := { program := "ytnfamcbeoihpiaa", sum := "3c01028a21671bd6b7922382850328df6797088a9dbbc939c31e9a790b68f6f4", func := "loop.example/g00516/laws.FnExactCrashDevice", spec := "fnExactCrashDevice", unfollowed := true, recurses := true, apart := false, narrowed := true }
def FnExactCrashDeviceUptoSaid : Prop := fnExactCrashDeviceUptoRow.holds Try.pinned (OpenSpec.upto fnExactCrashDeviceSpec)

/-- 'laws.FnExactSaveDevice', WHERE WHAT IT READS IS OF BULK AT MOST 1048576: true; the input reads as it did. -/
def fnExactSaveDeviceUptoRow : OpenClaim := { program := "ytnfamcbeoihpiaa", sum := "3c01028a21671bd6b7922382850328df6797088a9dbbc939c31e9a790b68f6f4", func := "loop.example/g00516/laws.FnExactSaveDevice", spec := "fnExactSaveDevice", unfollowed := true, recurses := true, apart := false, narrowed := true }
def FnExactSaveDeviceUptoSaid : Prop := fnExactSaveDeviceUptoRow.holds Try.pinned (OpenSpec.upto fnExactSaveDeviceSpec)

/-- 'laws.FnExactSubmitToDevice', WHERE WHAT IT READS IS OF BULK AT MOST 1048576: true; the input reads as it did. -/
def fnExactSubmitToDeviceUptoRow : OpenClaim := { program := "ytnfamcbeoihpiaa", sum := "3c01028a21671bd6b7922382850328df6797088a9dbbc939c31e9a790b68f6f4", func := "loop.example/g00516/laws.FnExactSubmitToDevice", spec := "fnExactSubmitToDevice", unfollowed := true, recurses := true, apart := false, narrowed := true }
def FnExactSubmitToDeviceUptoSaid : Prop := fnExactSubmitToDeviceUptoRow.holds Try.pinned (OpenSpec.upto fnExactSubmitToDeviceSpec)

/-- 'laws.FnExactClientWrite', WHERE WHAT IT READS IS OF BULK AT MOST 1048576: true; the input reads as it did. -/
def fnExactClientWriteUptoRow : OpenClaim := { program := "ytnfamcbeoihpiaa", sum := "3c01028a21671bd6b7922382850328df6797088a9dbbc939c31e9a790b68f6f4", func := "loop.example/g00516/laws.FnExactClientWrite", spec := "fnExactClientWrite", unfollowed := true, recurses := true, apart := false, narrowed := true }
def FnExactClientWriteUptoSaid : Prop := fnExactClientWriteUptoRow.holds Try.pinned (OpenSpec.upto fnExactClientWriteSpec)

/-- 'laws.FnExactPublishAll', WHERE WHAT IT READS IS OF BULK AT MOST 1048576: true; the input reads as it did. -/
def fnExactPublishAllUptoRow : OpenClaim := { program := "ytnfamcbeoihpiaa", sum := "3c01028a21671bd6b7922382850328df6797088a9dbbc939c31e9a790b68f6f4", func := "loop.example/g00516/laws.FnExactPublishAll", spec := "fnExactPublishAll", unfollowed := true, recurses := true, apart := false, narrowed := true }
def FnExactPublishAllUptoSaid : Prop := fnExactPublishAllUptoRow.holds Try.pinned (OpenSpec.upto fnExactPublishAllSpec)

/-- 'laws.FnExactIsSpoiled', WHERE WHAT IT READS IS OF BULK AT MOST 1048576: true; the input reads as it did. -/
def fnExactIsSpoiledUptoRow : OpenClaim := { program := "ytnfamcbeoihpiaa", sum := "3c01028a21671bd6b7922382850328df6797088a9dbbc939c31e9a790b68f6f4", func := "loop.example/g00516/laws.FnExactIsSpoiled", spec := "fnExactIsSpoiled", unfollowed := true, recurses := true, apart := false, narrowed := true }
def FnExactIsSpoiledUptoSaid : Prop := fnExactIsSpoiledUptoRow.holds Try.pinned (OpenSpec.upto fnExactIsSpoiledSpec)

/-- 'laws.FnExactClientRead', WHERE WHAT IT READS IS OF BULK AT MOST 1048576: true; the input reads as it did. -/
def fnExactClientReadUptoRow : OpenClaim := { program := "ytnfamcbeoihpiaa", sum := "3c01028a21671bd6b7922382850328df6797088a9dbbc939c31e9a790b68f6f4", func := "loop.example/g00516/laws.FnExactClientRead", spec := "fnExactClientRead", unfollowed := true, recurses := true, apart := false, narrowed := true }
def FnExactClientReadUptoSaid : Prop := fnExactClientReadUptoRow.holds Try.pinned (OpenSpec.upto fnExactClientReadSpec)

end Rows
end Go.Proofs.Ytnfamcbeoihpiaa
