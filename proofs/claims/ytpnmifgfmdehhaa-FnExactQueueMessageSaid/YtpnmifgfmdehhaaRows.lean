/-
  No cell of these rows narrows 'for every input' (looked for: loops, veiled, ifaces, maps, wideKeys, modest, calm, conditions, laid).
  DERIVED. THE GIVEN ROWS OF THIS SEAT. 12 by the template 'for every input the law returns true; each argument reads behind the call as it read before'; 0 by the template 'total and deterministic' (their statements: YtpnmifgfmdehhaaTotals.lean).
  GIVEN WITH THE SEED: the statements are not yours to turn. If you find one false, say at which input.
  Laid BY PROGRAM, IN A SANDBOX (cutbox-rows.mjs): the forced cells as the released guide's own fill.sh prints them over the translation ad8eceeda61ce35c… (all of the seat's roots in one cut). By AI agents, Wed Nov 11 2026. No macro, syntax, notation, axiom, sorry.
-/
import Derived.Test.YtpnmifgfmdehhaaChecked
import GoSem.Claim
import GoSem.ClaimJoined
import GoSem.ClaimMapViews
import Derived.JoinedTies
import Derived.KernelRfl
namespace Go.Proofs.Ytpnmifgfmdehhaa
/- THE CELL 'sum', in the pinned program and in every row, IS THE sha256 OF THE DUMP (.gsa) THAT YtpnmifgfmdehhaaProg.lean LOADS. Nothing in Lean hashes anything: it is a label: what it is worth is what the hold of that sum in a sandbox is worth. -/
noncomputable def Try.pinned : Pinned := { name := "ytpnmifgfmdehhaa", sum := "ad8eceeda61ce35c2c342bcb0999ca378971a0cedb7790872f84bc93cf7aaccf", checked := Try.checked }
namespace Rows
def none {H : Type} : Left H := { results := [], args := [] }

/-- 'laws.FnExactIsValidClient': WHATEVER THE INPUT: true; the input reads as it did. -/
def fnExactIsValidClientSpec : ChangeSpec := { name := "fnExactIsValidClient", fn := fun _ => fun
  | [d] => { results := [.lit (.bool true)], args := [d] }
  | _ => none }
def fnExactIsValidClientRow : OpenClaim := { program := "ytpnmifgfmdehhaa", sum := "ad8eceeda61ce35c2c342bcb0999ca378971a0cedb7790872f84bc93cf7aaccf", func := "loop.example/g00516/laws.FnExactIsValidClient", spec := "fnExactIsValidClient", unfollowed := true, recurses := true, apart := false }
def FnExactIsValidClientSaid : Prop := fnExactIsValidClientRow.holds Try.pinned (OpenSpec.ofChange fnExactIsValidClientSpec)

/-- ITS FALSE NEIGHBOUR: 'it returns false'. Refute it at one input. -/
def fnExactIsValidClientWrong : ChangeSpec := { name := "fnExactIsValidClient", fn := fun _ => fun
  | [d] => { results := [.lit (.bool false)], args := [d] }
  | _ => none }
def FnExactIsValidClientWrongFalsely : Prop := fnExactIsValidClientRow.holds Try.pinned (OpenSpec.ofChange fnExactIsValidClientWrong)

/-- 'laws.FnExactEqualClients': WHATEVER THE INPUT: true; the input reads as it did. -/
def fnExactEqualClientsSpec : ChangeSpec := { name := "fnExactEqualClients", fn := fun _ => fun
  | [d1, d2] => { results := [.lit (.bool true)], args := [d1, d2] }
  | _ => none }
def fnExactEqualClientsRow : OpenClaim := { program := "ytpnmifgfmdehhaa", sum := "ad8eceeda61ce35c2c342bcb0999ca378971a0cedb7790872f84bc93cf7aaccf", func := "loop.example/g00516/laws.FnExactEqualClients", spec := "fnExactEqualClients", unfollowed := true, recurses := true, apart := false }
def FnExactEqualClientsSaid : Prop := fnExactEqualClientsRow.holds Try.pinned (OpenSpec.ofChange fnExactEqualClientsSpec)

/-- ITS FALSE NEIGHBOUR: 'it returns false'. Refute it at one input. -/
def fnExactEqualClientsWrong : ChangeSpec := { name := "fnExactEqualClients", fn := fun _ => fun
  | [d1, d2] => { results := [.lit (.bool false)], args := [d1, d2] }
  | _ => none }
def FnExactEqualClientsWrongFalsely : Prop := fnExactEqualClientsRow.holds Try.pinned (OpenSpec.ofChange fnExactEqualClientsWrong)

/-- 'laws.FnExactLastRound': WHATEVER THE INPUT: true; the input reads as it did. -/
def fnExactLastRoundSpec : ChangeSpec := { name := "fnExactLastRound", fn := fun _ => fun
  | [d] => { results := [.lit (.bool true)], args := [d] }
  | _ => none }
def fnExactLastRoundRow : OpenClaim := { program := "ytpnmifgfmdehhaa", sum := "ad8eceeda61ce35c2c342bcb0999ca378971a0cedb7790872f84bc93cf7aaccf", func := "loop.example/g00516/laws.FnExactLastRound", spec := "fnExactLastRound", apart := false }
def FnExactLastRoundSaid : Prop := fnExactLastRoundRow.holds Try.pinned (OpenSpec.ofChange fnExactLastRoundSpec)

/-- ITS FALSE NEIGHBOUR: 'it returns false'. Refute it at one input. -/
def fnExactLastRoundWrong : ChangeSpec := { name := "fnExactLastRound", fn := fun _ => fun
  | [d] => { results := [.lit (.bool false)], args := [d] }
  | _ => none }
def FnExactLastRoundWrongFalsely : Prop := fnExactLastRoundRow.holds Try.pinned (OpenSpec.ofChange fnExactLastRoundWrong)

/-- 'laws.FnExactEqualDevices': WHATEVER THE INPUT: true; the input reads as it did. -/
def fnExactEqualDevicesSpec : ChangeSpec := { name := "fnExactEqualDevices", fn := fun _ => fun
  | [d1, d2] => { results := [.lit (.bool true)], args := [d1, d2] }
  | _ => none }
def fnExactEqualDevicesRow : OpenClaim := { program := "ytpnmifgfmdehhaa", sum := "ad8eceeda61ce35c2c342bcb0999ca378971a0cedb7790872f84bc93cf7aaccf", func := "loop.example/g00516/laws.FnExactEqualDevices", spec := "fnExactEqualDevices", unfollowed := true, recurses := true, apart := false }
def FnExactEqualDevicesSaid : Prop := fnExactEqualDevicesRow.holds Try.pinned (OpenSpec.ofChange fnExactEqualDevicesSpec)

/-- ITS FALSE NEIGHBOUR: 'it returns false'. Refute it at one input. -/
def fnExactEqualDevicesWrong : ChangeSpec := { name := "fnExactEqualDevices", fn := fun _ => fun
  | [d1, d2] => { results := [.lit (.bool false)], args := [d1, d2] }
  | _ => none }
def FnExactEqualDevicesWrongFalsely : Prop := fnExactEqualDevicesRow.holds Try.pinned (OpenSpec.ofChange fnExactEqualDevicesWrong)

/-- 'laws.FnExactIsValidArchive': WHATEVER THE INPUT: true; the input reads as it did. -/
def fnExactIsValidArchiveSpec : ChangeSpec := { name := "fnExactIsValidArchive", fn := fun _ => fun
  | [d] => { results := [.lit (.bool true)], args := [d] }
  | _ => none }
def fnExactIsValidArchiveRow : OpenClaim := { program := "ytpnmifgfmdehhaa", sum := "ad8eceeda61ce35c2c342bcb0999ca378971a0cedb7790872f84bc93cf7aaccf", func := "loop.example/g00516/laws.FnExactIsValidArchive", spec := "fnExactIsValidArchive", unfollowed := true, recurses := true, apart := false }
def FnExactIsValidArchiveSaid : Prop := fnExactIsValidArchiveRow.holds Try.pinned (OpenSpec.ofChange fnExactIsValidArchiveSpec)

/-- ITS FALSE NEIGHBOUR: 'it returns false'. Refute it at one input. -/
def fnExactIsValidArchiveWrong : ChangeSpec := { name := "fnExactIsValidArchive", fn := fun _ => fun
  | [d] => { results := [.lit (.bool false)], args := [d] }
  | _ => none }
def FnExactIsValidArchiveWrongFalsely : Prop := fnExactIsValidArchiveRow.holds Try.pinned (OpenSpec.ofChange fnExactIsValidArchiveWrong)

/-- 'laws.FnExactRowsToRead': WHATEVER THE INPUT: true; the input reads as it did. -/
def fnExactRowsToReadSpec : ChangeSpec := { name := "fnExactRowsToRead", fn := fun _ => fun
  | [d1, d2, d3] => { results := [.lit (.bool true)], args := [d1, d2, d3] }
  | _ => none }
def fnExactRowsToReadRow : OpenClaim := { program := "ytpnmifgfmdehhaa", sum := "ad8eceeda61ce35c2c342bcb0999ca378971a0cedb7790872f84bc93cf7aaccf", func := "loop.example/g00516/laws.FnExactRowsToRead", spec := "fnExactRowsToRead", apart := false }
def FnExactRowsToReadSaid : Prop := fnExactRowsToReadRow.holds Try.pinned (OpenSpec.ofChange fnExactRowsToReadSpec)

/-- ITS FALSE NEIGHBOUR: 'it returns false'. Refute it at one input. -/
def fnExactRowsToReadWrong : ChangeSpec := { name := "fnExactRowsToRead", fn := fun _ => fun
  | [d1, d2, d3] => { results := [.lit (.bool false)], args := [d1, d2, d3] }
  | _ => none }
def FnExactRowsToReadWrongFalsely : Prop := fnExactRowsToReadRow.holds Try.pinned (OpenSpec.ofChange fnExactRowsToReadWrong)

/-- 'laws.FnExactEqualArchives': WHATEVER THE INPUT: true; the input reads as it did. -/
def fnExactEqualArchivesSpec : ChangeSpec := { name := "fnExactEqualArchives", fn := fun _ => fun
  | [d1, d2] => { results := [.lit (.bool true)], args := [d1, d2] }
  | _ => none }
def fnExactEqualArchivesRow : OpenClaim := { program := "ytpnmifgfmdehhaa", sum := "ad8eceeda61ce35c2c342bcb0999ca378971a0cedb7790872f84bc93cf7aaccf", func := "loop.example/g00516/laws.FnExactEqualArchives", spec := "fnExactEqualArchives", unfollowed := true, recurses := true, apart := false }
def FnExactEqualArchivesSaid : Prop := fnExactEqualArchivesRow.holds Try.pinned (OpenSpec.ofChange fnExactEqualArchivesSpec)

/-- ITS FALSE NEIGHBOUR: 'it returns false'. Refute it at one input. -/
def fnExactEqualArchivesWrong : ChangeSpec := { name := "fnExactEqualArchives", fn := fun _ => fun
  | [d1, d2] => { results := [.lit (.bool false)], args := [d1, d2] }
  | _ => none }
def FnExactEqualArchivesWrongFalsely : Prop := fnExactEqualArchivesRow.holds Try.pinned (OpenSpec.ofChange fnExactEqualArchivesWrong)

/-- 'laws.FnExactNewDevice': WHATEVER THE INPUT: true; the input reads as it did. -/
def fnExactNewDeviceSpec : ChangeSpec := { name := "fnExactNewDevice", fn := fun _ => fun
  | [d] => { results := [.lit (.bool true)], args := [d] }
  | _ => none }
def fnExactNewDeviceRow : OpenClaim := { program := "ytpnmifgfmdehhaa", sum := "ad8eceeda61ce35c2c342bcb0999ca378971a0cedb7790872f84bc93cf7aaccf", func := "loop.example/g00516/laws.FnExactNewDevice", spec := "fnExactNewDevice", apart := false }
def FnExactNewDeviceSaid : Prop := fnExactNewDeviceRow.holds Try.pinned (OpenSpec.ofChange fnExactNewDeviceSpec)

/-- ITS FALSE NEIGHBOUR: 'it returns false'. Refute it at one input. -/
def fnExactNewDeviceWrong : ChangeSpec := { name := "fnExactNewDevice", fn := fun _ => fun
  | [d] => { results := [.lit (.bool false)], args := [d] }
  | _ => none }
def FnExactNewDeviceWrongFalsely : Prop := fnExactNewDeviceRow.holds Try.pinned (OpenSpec.ofChange fnExactNewDeviceWrong)

/-- 'laws.FnExactRoundsSince': WHATEVER THE INPUT: true; the input reads as it did. -/
def fnExactRoundsSinceSpec : ChangeSpec := { name := "fnExactRoundsSince", fn := fun _ => fun
  | [d1, d2] => { results := [.lit (.bool true)], args := [d1, d2] }
  | _ => none }
def fnExactRoundsSinceRow : OpenClaim := { program := "ytpnmifgfmdehhaa", sum := "ad8eceeda61ce35c2c342bcb0999ca378971a0cedb7790872f84bc93cf7aaccf", func := "loop.example/g00516/laws.FnExactRoundsSince", spec := "fnExactRoundsSince", apart := false }
def FnExactRoundsSinceSaid : Prop := fnExactRoundsSinceRow.holds Try.pinned (OpenSpec.ofChange fnExactRoundsSinceSpec)

/-- ITS FALSE NEIGHBOUR: 'it returns false'. Refute it at one input. -/
def fnExactRoundsSinceWrong : ChangeSpec := { name := "fnExactRoundsSince", fn := fun _ => fun
  | [d1, d2] => { results := [.lit (.bool false)], args := [d1, d2] }
  | _ => none }
def FnExactRoundsSinceWrongFalsely : Prop := fnExactRoundsSinceRow.holds Try.pinned (OpenSpec.ofChange fnExactRoundsSinceWrong)

/-- 'laws.FnExactIsValidDevice': WHATEVER THE INPUT: true; the input reads as it did. -/
def fnExactIsValidDeviceSpec : ChangeSpec := { name := "fnExactIsValidDevice", fn := fun _ => fun
  | [d] => { results := [.lit (.bool true)], args := [d] }
  | _ => none }
def fnExactIsValidDeviceRow : OpenClaim := { program := "ytpnmifgfmdehhaa", sum := "ad8eceeda61ce35c2c342bcb0999ca378971a0cedb7790872f84bc93cf7aaccf", func := "loop.example/g00516/laws.FnExactIsValidDevice", spec := "fnExactIsValidDevice", unfollowed := true, recurses := true, apart := false }
def FnExactIsValidDeviceSaid : Prop := fnExactIsValidDeviceRow.holds Try.pinned (OpenSpec.ofChange fnExactIsValidDeviceSpec)

/-- ITS FALSE NEIGHBOUR: 'it returns false'. Refute it at one input. -/
def fnExactIsValidDeviceWrong : ChangeSpec := { name := "fnExactIsValidDevice", fn := fun _ => fun
  | [d] => { results := [.lit (.bool false)], args := [d] }
  | _ => none }
def FnExactIsValidDeviceWrongFalsely : Prop := fnExactIsValidDeviceRow.holds Try.pinned (OpenSpec.ofChange fnExactIsValidDeviceWrong)

/-- 'laws.FnExactNeedsSave': WHATEVER THE INPUT: true; the input reads as it did. -/
def fnExactNeedsSaveSpec : ChangeSpec := { name := "fnExactNeedsSave", fn := fun _ => fun
  | [d] => { results := [.lit (.bool true)], args := [d] }
  | _ => none }
def fnExactNeedsSaveRow : OpenClaim := { program := "ytpnmifgfmdehhaa", sum := "ad8eceeda61ce35c2c342bcb0999ca378971a0cedb7790872f84bc93cf7aaccf", func := "loop.example/g00516/laws.FnExactNeedsSave", spec := "fnExactNeedsSave", unfollowed := true, recurses := true, apart := false }
def FnExactNeedsSaveSaid : Prop := fnExactNeedsSaveRow.holds Try.pinned (OpenSpec.ofChange fnExactNeedsSaveSpec)

/-- ITS FALSE NEIGHBOUR: 'it returns false'. Refute it at one input. -/
def fnExactNeedsSaveWrong : ChangeSpec := { name := "fnExactNeedsSave", fn := fun _ => fun
  | [d] => { results := [.lit (.bool false)], args := [d] }
  | _ => none }
def FnExactNeedsSaveWrongFalsely : Prop := fnExactNeedsSaveRow.holds Try.pinned (OpenSpec.ofChange fnExactNeedsSaveWrong)

/-- 'laws.FnExactQueueMessage': WHATEVER THE INPUT: true; the input reads as it did. -/
def fnExactQueueMessageSpec : ChangeSpec := { name := "fnExactQueueMessage", fn := fun _ => fun
  | [d1, d2] => { results := [.lit (.bool true)], args := [d1, d2] }
  | _ => none }
def fnExactQueueMessageRow : OpenClaim := { program := "ytpnmifgfmdehhaa", sum := "ad8eceeda61ce35c2c342bcb0999ca378971a0cedb7790872f84bc93cf7aaccf", func := "loop.example/g00516/laws.FnExactQueueMessage", spec := "fnExactQueueMessage", unfollowed := true, recurses := true, apart := false }
def FnExactQueueMessageSaid : Prop := fnExactQueueMessageRow.holds Try.pinned (OpenSpec.ofChange fnExactQueueMessageSpec)

/-- ITS FALSE NEIGHBOUR: 'it returns false'. Refute it at one input. -/
def fnExactQueueMessageWrong : ChangeSpec := { name := "fnExactQueueMessage", fn := fun _ => fun
  | [d1, d2] => { results := [.lit (.bool false)], args := [d1, d2] }
  | _ => none }
def FnExactQueueMessageWrongFalsely : Prop := fnExactQueueMessageRow.holds Try.pinned (OpenSpec.ofChange fnExactQueueMessageWrong)

/- THE SECOND FORM. 'bulk': how many values and letters a reading holds, each counted each time it is reached (what is shared counts as often as it is met; a slice's spare places count too). A statement '..UptoSaid' is the law's where the arguments, and the package variables that the reading takes, are together of bulk at most 1048576: NARROWER than '..Said'. Prove '..Said' where nothing that the law and all that it calls make is longer than what came in: it says more and counts as full. Else prove '..UptoSaid'. A law counts once. -/
mutual
def uptoBulk {H : Type} : DataW H → Nat
  | .lit (.string bytes) => bytes.length + 1
  | .lit _ => 1
  | .nil => 1
  | .ptr d => uptoBulk d + 1
  | .slice elems spare => uptoBulkAll elems + uptoBulkAll spare + 1
  | .agg parts => uptoBulkAll parts + 1
  | .iface _ d => uptoBulk d + 1
  | .map entries => uptoBulkEntries entries + 1
  | .held _ => 1
def uptoBulkAll {H : Type} : List (DataW H) → Nat
  | [] => 0
  | d :: r => uptoBulk d + uptoBulkAll r
def uptoBulkEntries {H : Type} : List (Lit × DataW H) → Nat
  | [] => 0
  | x :: r => uptoBulkEntry x + uptoBulkEntries r
def uptoBulkEntry {H : Type} : Lit × DataW H → Nat
  | (.string bytes, d) => bytes.length + uptoBulk d + 1
  | (_, d) => uptoBulk d + 1
 end
def uptoSmall : (H : Type) → List (DataW H) → Bool := fun _ ds => decide (uptoBulkAll ds ≤ 1048576)
def OpenSpec.upto (s : _root_.Go.ChangeSpec) : _root_.Go.OpenSpec := { _root_.Go.OpenSpec.ofChange s with cond := some uptoSmall }

/-- 'laws.FnExactIsValidClient', WHERE WHAT IT READS IS OF BULK AT MOST 1048576: true; the input reads as it did. -/
def fnExactIsValidClientUptoRow : OpenClaim := { program := "ytpnmifgfmdehhaa", sum := "ad8eceeda61ce35c2c342bcb0999ca378971a0cedb7790872f84bc93cf7aaccf", func := "loop.example/g00516/laws.FnExactIsValidClient", spec := "fnExactIsValidClient", unfollowed := true, recurses := true, apart := false, narrowed := true }
def FnExactIsValidClientUptoSaid : Prop := fnExactIsValidClientUptoRow.holds Try.pinned (OpenSpec.upto fnExactIsValidClientSpec)

/-- 'laws.FnExactEqualClients', WHERE WHAT IT READS IS OF BULK AT MOST 1048576: true; the input reads as it did. -/
def fnExactEqualClientsUptoRow : OpenClaim := { program := "ytpnmifgfmdehhaa", sum := "ad8eceeda61ce35c2c342bcb0999ca378971a0cedb7790872f84bc93cf7aaccf", func := "loop.example/g00516/laws.FnExactEqualClients", spec := "fnExactEqualClients", unfollowed := true, recurses := true, apart := false, narrowed := true }
def FnExactEqualClientsUptoSaid : Prop := fnExactEqualClientsUptoRow.holds Try.pinned (OpenSpec.upto fnExactEqualClientsSpec)

/-- 'laws.FnExactLastRound', WHERE WHAT IT READS IS OF BULK AT MOST 1048576: true; the input reads as it did. -/
def fnExactLastRoundUptoRow : OpenClaim := { program := "ytpnmifgfmdehhaa", sum := "ad8eceeda61ce35c2c342bcb0999ca378971a0cedb7790872f84bc93cf7aaccf", func := "loop.example/g00516/laws.FnExactLastRound", spec := "fnExactLastRound", apart := false, narrowed := true }
def FnExactLastRoundUptoSaid : Prop := fnExactLastRoundUptoRow.holds Try.pinned (OpenSpec.upto fnExactLastRoundSpec)

/-- 'laws.FnExactEqualDevices', WHERE WHAT IT READS IS OF BULK AT MOST 1048576: true; the input reads as it did. -/
def fnExactEqualDevicesUptoRow : OpenClaim := { program := "ytpnmifgfmdehhaa", sum := "ad8eceeda61ce35c2c342bcb0999ca378971a0cedb7790872f84bc93cf7aaccf", func := "loop.example/g00516/laws.FnExactEqualDevices", spec := "fnExactEqualDevices", unfollowed := true, recurses := true, apart := false, narrowed := true }
def FnExactEqualDevicesUptoSaid : Prop := fnExactEqualDevicesUptoRow.holds Try.pinned (OpenSpec.upto fnExactEqualDevicesSpec)

/-- 'laws.FnExactIsValidArchive', WHERE WHAT IT READS IS OF BULK AT MOST 1048576: true; the input reads as it did. -/
def fnExactIsValidArchiveUptoRow : OpenClaim := { program := "ytpnmifgfmdehhaa", sum := "ad8eceeda61ce35c2c342bcb0999ca378971a0cedb7790872f84bc93cf7aaccf", func := "loop.example/g00516/laws.FnExactIsValidArchive", spec := "fnExactIsValidArchive", unfollowed := true, recurses := true, apart := false, narrowed := true }
def FnExactIsValidArchiveUptoSaid : Prop := fnExactIsValidArchiveUptoRow.holds Try.pinned (OpenSpec.upto fnExactIsValidArchiveSpec)

/-- 'laws.FnExactRowsToRead', WHERE WHAT IT READS IS OF BULK AT MOST 1048576: true; the input reads as it did. -/
def fnExactRowsToReadUptoRow : OpenClaim := { program := "ytpnmifgfmdehhaa", sum := "ad8eceeda61ce35c2c342bcb0999ca378971a0cedb7790872f84bc93cf7aaccf", func := "loop.example/g00516/laws.FnExactRowsToRead", spec := "fnExactRowsToRead", apart := false, narrowed := true }
def FnExactRowsToReadUptoSaid : Prop := fnExactRowsToReadUptoRow.holds Try.pinned (OpenSpec.upto fnExactRowsToReadSpec)

/-- 'laws.FnExactEqualArchives', WHERE WHAT IT READS IS OF BULK AT MOST 1048576: true; the input reads as it did. -/
def fnExactEqualArchivesUptoRow : OpenClaim := { program := "ytpnmifgfmdehhaa", sum := "ad8eceeda61ce35c2c342bcb0999ca378971a0cedb7790872f84bc93cf7aaccf", func := "loop.example/g00516/laws.FnExactEqualArchives", spec := "fnExactEqualArchives", unfollowed := true, recurses := true, apart := false, narrowed := true }
def FnExactEqualArchivesUptoSaid : Prop := fnExactEqualArchivesUptoRow.holds Try.pinned (OpenSpec.upto fnExactEqualArchivesSpec)

/-- 'laws.FnExactNewDevice', WHERE WHAT IT READS IS OF BULK AT MOST 1048576: true; the input reads as it did. -/
def fnExactNewDeviceUptoRow : OpenClaim := { program := "ytpnmifgfmdehhaa", sum := "ad8eceeda61ce35c2c342bcb0999ca378971a0cedb7790872f84bc93cf7aaccf", func := "loop.example/g00516/laws.FnExactNewDevice", spec := "fnExactNewDevice", apart := false, narrowed := true }
def FnExactNewDeviceUptoSaid : Prop := fnExactNewDeviceUptoRow.holds Try.pinned (OpenSpec.upto fnExactNewDeviceSpec)

/-- 'laws.FnExactRoundsSince', WHERE WHAT IT READS IS OF BULK AT MOST 1048576: true; the input reads as it did. -/
def fnExactRoundsSinceUptoRow : OpenClaim := { program := "ytpnmifgfmdehhaa", sum := "ad8eceeda61ce35c2c342bcb0999ca378971a0cedb7790872f84bc93cf7aaccf", func := "loop.example/g00516/laws.FnExactRoundsSince", spec := "fnExactRoundsSince", apart := false, narrowed := true }
def FnExactRoundsSinceUptoSaid : Prop := fnExactRoundsSinceUptoRow.holds Try.pinned (OpenSpec.upto fnExactRoundsSinceSpec)

/-- 'laws.FnExactIsValidDevice', WHERE WHAT IT READS IS OF BULK AT MOST 1048576: true; the input reads as it did. -/
def fnExactIsValidDeviceUptoRow : OpenClaim := { program := "ytpnmifgfmdehhaa", sum := "ad8eceeda61ce35c2c342bcb0999ca378971a0cedb7790872f84bc93cf7aaccf", func := "loop.example/g00516/laws.FnExactIsValidDevice", spec := "fnExactIsValidDevice", unfollowed := true, recurses := true, apart := false, narrowed := true }
def FnExactIsValidDeviceUptoSaid : Prop := fnExactIsValidDeviceUptoRow.holds Try.pinned (OpenSpec.upto fnExactIsValidDeviceSpec)

/-- 'laws.FnExactNeedsSave', WHERE WHAT IT READS IS OF BULK AT MOST 1048576: true; the input reads as it did. -/
def fnExactNeedsSaveUptoRow : OpenClaim := { program := "ytpnmifgfmdehhaa", sum := "ad8eceeda61ce35c2c342bcb0999ca378971a0cedb7790872f84bc93cf7aaccf", func := "loop.example/g00516/laws.FnExactNeedsSave", spec := "fnExactNeedsSave", unfollowed := true, recurses := true, apart := false, narrowed := true }
def FnExactNeedsSaveUptoSaid : Prop := fnExactNeedsSaveUptoRow.holds Try.pinned (OpenSpec.upto fnExactNeedsSaveSpec)

/-- 'laws.FnExactQueueMessage', WHERE WHAT IT READS IS OF BULK AT MOST 1048576: true; the input reads as it did. -/
def fnExactQueueMessageUptoRow : OpenClaim := { program := "ytpnmifgfmdehhaa", sum := "ad8eceeda61ce35c2c342bcb0999ca378971a0cedb7790872f84bc93cf7aaccf", func := "loop.example/g00516/laws.FnExactQueueMessage", spec := "fnExactQueueMessage", unfollowed := true, recurses := true, apart := false, narrowed := true }
def FnExactQueueMessageUptoSaid : Prop := fnExactQueueMessageUptoRow.holds Try.pinned (OpenSpec.upto fnExactQueueMessageSpec)

end Rows
end Go.Proofs.Ytpnmifgfmdehhaa
