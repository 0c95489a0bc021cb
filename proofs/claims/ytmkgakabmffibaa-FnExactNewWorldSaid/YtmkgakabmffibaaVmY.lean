/-
  A structure for each struct type of this seat, its cells, and that a reading of the type opens as these; written by a program of ours off the translation.
  Conditions: none.
-/
import Derived.Test.YtmkgakabmffibaaVmT
import Derived.Test.YtmkgakabmffibaaVmW
import Derived.Test.YtmkgakabmffibaaVmZ
namespace Go.Proofs.Ytmkgakabmffibaa
open Go.Vm Go.RowKit

theorem op2 : Opens Try.prog 2 eI okI := (opens_i64 Try.underlying2)
theorem op3 : Opens Try.prog 3 eI okI := (opens_i64 Try.underlying3)
theorem op4 : Opens Try.prog 4 eB okB := (opens_bool Try.underlying4)
theorem op5 : Opens Try.prog 5 eU okU := (opens_u8 Try.underlying5)
theorem op6 : Opens Try.prog 6 eU okU := (opens_u8 Try.underlying6)
theorem op9 : Opens Try.prog 9 eS okS := (opens_str Try.underlying9)
theorem op10 : Opens Try.prog 10 eS okS := (opens_str Try.underlying10)
theorem op11 : Opens Try.prog 11 eS okS := (opens_str Try.underlying11)
theorem op26 : Opens Try.prog 26 (eL eU) (okL okU) := opens_slice Try.underlying26 (of_decide_eq_true (by kernel_rfl)) (opens_u8 Try.underlying5)
theorem op22 : Opens Try.prog 22 (eL (eL eU)) (okL (okL okU)) := opens_slice Try.underlying22 (of_decide_eq_true (by kernel_rfl)) op26
/-- A Client. -/
structure DClient where
  Id : Int
  Friend : Int
  Key : Int
  Seed : Int
  Submitted : (List (List UInt8))
  Sent : Int
  Inbox : (List (List UInt8))
  Next : Int
def DClient.e (x : DClient) : List T := [I x.Id, I x.Friend, I x.Key, I x.Seed, L (eL eU) x.Submitted, I x.Sent, L (eL eU) x.Inbox, I x.Next]
def DClient.r (x : DClient) : List RC := [.s (I x.Id), .s (I x.Friend), .s (I x.Key), .s (I x.Seed), .l 1 (x.Submitted.map (eL eU)), .s (I x.Sent), .l 1 (x.Inbox.map (eL eU)), .s (I x.Next)]
def DClient.ok (x : DClient) : Prop := okI x.Id ∧ okI x.Friend ∧ okI x.Key ∧ okI x.Seed ∧ (okL (okL okU)) x.Submitted ∧ okI x.Sent ∧ (okL (okL okU)) x.Inbox ∧ okI x.Next
theorem op24 : Opens Try.prog 24 DClient.e DClient.ok := (opens_struct Try.underlying24 (opensF_cons (by kernel_rfl) (opens_i64 Try.underlying3) (opensF_cons (by kernel_rfl) (opens_i64 Try.underlying3) (opensF_cons (by kernel_rfl) (opens_i64 Try.underlying3) (opensF_cons (by kernel_rfl) (opens_i64 Try.underlying3) (opensF_cons (by kernel_rfl) op22 (opensF_cons (by kernel_rfl) (opens_i64 Try.underlying3) (opensF_cons (by kernel_rfl) op22 (opensF_one (by kernel_rfl) (by kernel_rfl) (opens_i64 Try.underlying3)))))))))).conv (fun p => ⟨p.1, p.2.1, p.2.2.1, p.2.2.2.1, p.2.2.2.2.1, p.2.2.2.2.2.1, p.2.2.2.2.2.2.1, p.2.2.2.2.2.2.2⟩) (fun _ => rfl) (fun _ h => h)
theorem op29 : Opens Try.prog 29 DClient.e DClient.ok := (opens_struct Try.underlying29 (opensF_cons (by kernel_rfl) (opens_i64 Try.underlying3) (opensF_cons (by kernel_rfl) (opens_i64 Try.underlying3) (opensF_cons (by kernel_rfl) (opens_i64 Try.underlying3) (opensF_cons (by kernel_rfl) (opens_i64 Try.underlying3) (opensF_cons (by kernel_rfl) op22 (opensF_cons (by kernel_rfl) (opens_i64 Try.underlying3) (opensF_cons (by kernel_rfl) op22 (opensF_one (by kernel_rfl) (by kernel_rfl) (opens_i64 Try.underlying3)))))))))).conv (fun p => ⟨p.1, p.2.1, p.2.2.1, p.2.2.2.1, p.2.2.2.2.1, p.2.2.2.2.2.1, p.2.2.2.2.2.2.1, p.2.2.2.2.2.2.2⟩) (fun _ => rfl) (fun _ h => h)
/-- A Database. -/
structure DDatabase where
  Rows : (List (List UInt8))
def DDatabase.e (x : DDatabase) : List T := [L (eL eU) x.Rows]
def DDatabase.r (x : DDatabase) : List RC := [.l 1 (x.Rows.map (eL eU))]
def DDatabase.ok (x : DDatabase) : Prop := (okL (okL okU)) x.Rows
theorem op44 : Opens Try.prog 44 DDatabase.e DDatabase.ok := (opens_struct Try.underlying44 (opensF_one (by kernel_rfl) (by kernel_rfl) op22)).conv (fun p => ⟨p⟩) (fun _ => rfl) (fun _ h => h)
/-- A ReceivedShare. -/
structure DReceivedShare where
  Client : Int
  Share : DDatabase
def DReceivedShare.e (x : DReceivedShare) : List T := [I x.Client, L (eL eU) x.Share.Rows]
def DReceivedShare.r (x : DReceivedShare) : List RC := [.s (I x.Client), .l 1 (x.Share.Rows.map (eL eU))]
def DReceivedShare.ok (x : DReceivedShare) : Prop := okI x.Client ∧ DDatabase.ok x.Share
theorem op183 : Opens Try.prog 183 DReceivedShare.e DReceivedShare.ok := (opens_struct Try.underlying183 (opensF_cons (by kernel_rfl) (opens_i64 Try.underlying3) (opensF_one (by kernel_rfl) (by kernel_rfl) op44))).conv (fun p => ⟨p.1, p.2⟩) (fun _ => rfl) (fun _ h => h)
theorem op40 : Opens Try.prog 40 (eL DReceivedShare.e) (okL DReceivedShare.ok) := opens_slice Try.underlying40 (of_decide_eq_true (by kernel_rfl)) op183
/-- A Server. -/
structure DServer where
  Id : Int
  Rows : Int
  Round : Int
  Received : (List DReceivedShare)
  Behavior : Int
def DServer.e (x : DServer) : List T := [I x.Id, I x.Rows, I x.Round, L DReceivedShare.e x.Received, I x.Behavior]
def DServer.r (x : DServer) : List RC := [.s (I x.Id), .s (I x.Rows), .s (I x.Round), .l 2 (x.Received.map DReceivedShare.e), .s (I x.Behavior)]
def DServer.ok (x : DServer) : Prop := okI x.Id ∧ okI x.Rows ∧ okI x.Round ∧ (okL DReceivedShare.ok) x.Received ∧ okI x.Behavior
theorem op42 : Opens Try.prog 42 DServer.e DServer.ok := (opens_struct Try.underlying42 (opensF_cons (by kernel_rfl) (opens_i64 Try.underlying3) (opensF_cons (by kernel_rfl) (opens_i64 Try.underlying3) (opensF_cons (by kernel_rfl) (opens_i64 Try.underlying3) (opensF_cons (by kernel_rfl) op40 (opensF_one (by kernel_rfl) (by kernel_rfl) (opens_i64 Try.underlying3))))))).conv (fun p => ⟨p.1, p.2.1, p.2.2.1, p.2.2.2.1, p.2.2.2.2⟩) (fun _ => rfl) (fun _ h => h)
/-- A Receipt. -/
structure DReceipt where
  Server : Int
  Client : Int
  Round : Int
  Digest : Int
  MAC : Int
def DReceipt.e (x : DReceipt) : List T := [I x.Server, I x.Client, I x.Round, I x.Digest, I x.MAC]
def DReceipt.r (x : DReceipt) : List RC := [.s (I x.Server), .s (I x.Client), .s (I x.Round), .s (I x.Digest), .s (I x.MAC)]
def DReceipt.ok (x : DReceipt) : Prop := okI x.Server ∧ okI x.Client ∧ okI x.Round ∧ okI x.Digest ∧ okI x.MAC
theorem op143 : Opens Try.prog 143 DReceipt.e DReceipt.ok := (opens_struct Try.underlying143 (opensF_cons (by kernel_rfl) (opens_i64 Try.underlying3) (opensF_cons (by kernel_rfl) (opens_i64 Try.underlying3) (opensF_cons (by kernel_rfl) (opens_i64 Try.underlying3) (opensF_cons (by kernel_rfl) (opens_i64 Try.underlying3) (opensF_one (by kernel_rfl) (by kernel_rfl) (opens_i64 Try.underlying3))))))).conv (fun p => ⟨p.1, p.2.1, p.2.2.1, p.2.2.2.1, p.2.2.2.2⟩) (fun _ => rfl) (fun _ h => h)
theorem op45 : Opens Try.prog 45 (eL DReceipt.e) (okL DReceipt.ok) := opens_slice Try.underlying45 (of_decide_eq_true (by kernel_rfl)) op143
theorem op54 : Opens Try.prog 54 DDatabase.e DDatabase.ok := (opens_struct Try.underlying54 (opensF_one (by kernel_rfl) (by kernel_rfl) op22)).conv (fun p => ⟨p⟩) (fun _ => rfl) (fun _ h => h)
theorem op186 : Opens Try.prog 186 DReceivedShare.e DReceivedShare.ok := (opens_struct Try.underlying186 (opensF_cons (by kernel_rfl) (opens_i64 Try.underlying3) (opensF_one (by kernel_rfl) (by kernel_rfl) op54))).conv (fun p => ⟨p.1, p.2⟩) (fun _ => rfl) (fun _ h => h)
theorem op50 : Opens Try.prog 50 (eL DReceivedShare.e) (okL DReceivedShare.ok) := opens_slice Try.underlying50 (of_decide_eq_true (by kernel_rfl)) op186
theorem op52 : Opens Try.prog 52 DServer.e DServer.ok := (opens_struct Try.underlying52 (opensF_cons (by kernel_rfl) (opens_i64 Try.underlying3) (opensF_cons (by kernel_rfl) (opens_i64 Try.underlying3) (opensF_cons (by kernel_rfl) (opens_i64 Try.underlying3) (opensF_cons (by kernel_rfl) op50 (opensF_one (by kernel_rfl) (by kernel_rfl) (opens_i64 Try.underlying3))))))).conv (fun p => ⟨p.1, p.2.1, p.2.2.1, p.2.2.2.1, p.2.2.2.2⟩) (fun _ => rfl) (fun _ h => h)
theorem op134 : Opens Try.prog 134 DReceipt.e DReceipt.ok := (opens_struct Try.underlying134 (opensF_cons (by kernel_rfl) (opens_i64 Try.underlying3) (opensF_cons (by kernel_rfl) (opens_i64 Try.underlying3) (opensF_cons (by kernel_rfl) (opens_i64 Try.underlying3) (opensF_cons (by kernel_rfl) (opens_i64 Try.underlying3) (opensF_one (by kernel_rfl) (by kernel_rfl) (opens_i64 Try.underlying3))))))).conv (fun p => ⟨p.1, p.2.1, p.2.2.1, p.2.2.2.1, p.2.2.2.2⟩) (fun _ => rfl) (fun _ h => h)
theorem op56 : Opens Try.prog 56 (eL DReceipt.e) (okL DReceipt.ok) := opens_slice Try.underlying56 (of_decide_eq_true (by kernel_rfl)) op134
theorem op62 : Opens Try.prog 62 (eL DServer.e) (okL DServer.ok) := opens_slice Try.underlying62 (of_decide_eq_true (by kernel_rfl)) op42
/-- A Device. -/
structure DDevice where
  Live : DClient
  Saved : DClient
def DDevice.e (x : DDevice) : List T := [I x.Live.Id, I x.Live.Friend, I x.Live.Key, I x.Live.Seed, L (eL eU) x.Live.Submitted, I x.Live.Sent, L (eL eU) x.Live.Inbox, I x.Live.Next, I x.Saved.Id, I x.Saved.Friend, I x.Saved.Key, I x.Saved.Seed, L (eL eU) x.Saved.Submitted, I x.Saved.Sent, L (eL eU) x.Saved.Inbox, I x.Saved.Next]
def DDevice.r (x : DDevice) : List RC := [.s (I x.Live.Id), .s (I x.Live.Friend), .s (I x.Live.Key), .s (I x.Live.Seed), .l 1 (x.Live.Submitted.map (eL eU)), .s (I x.Live.Sent), .l 1 (x.Live.Inbox.map (eL eU)), .s (I x.Live.Next), .s (I x.Saved.Id), .s (I x.Saved.Friend), .s (I x.Saved.Key), .s (I x.Saved.Seed), .l 1 (x.Saved.Submitted.map (eL eU)), .s (I x.Saved.Sent), .l 1 (x.Saved.Inbox.map (eL eU)), .s (I x.Saved.Next)]
def DDevice.ok (x : DDevice) : Prop := DClient.ok x.Live ∧ DClient.ok x.Saved
theorem op82 : Opens Try.prog 82 DDevice.e DDevice.ok := (opens_struct Try.underlying82 (opensF_cons (by kernel_rfl) op24 (opensF_one (by kernel_rfl) (by kernel_rfl) op24))).conv (fun p => ⟨p.1, p.2⟩) (fun _ => rfl) (fun _ h => h)
theorem op63 : Opens Try.prog 63 (eL DDevice.e) (okL DDevice.ok) := opens_slice Try.underlying63 (of_decide_eq_true (by kernel_rfl)) op82
/-- A ArchivedRound. -/
structure DArchivedRound where
  Round : Int
  Database : DDatabase
def DArchivedRound.e (x : DArchivedRound) : List T := [I x.Round, L (eL eU) x.Database.Rows]
def DArchivedRound.r (x : DArchivedRound) : List RC := [.s (I x.Round), .l 1 (x.Database.Rows.map (eL eU))]
def DArchivedRound.ok (x : DArchivedRound) : Prop := okI x.Round ∧ DDatabase.ok x.Database
theorem op212 : Opens Try.prog 212 DArchivedRound.e DArchivedRound.ok := (opens_struct Try.underlying212 (opensF_cons (by kernel_rfl) (opens_i64 Try.underlying3) (opensF_one (by kernel_rfl) (by kernel_rfl) op44))).conv (fun p => ⟨p.1, p.2⟩) (fun _ => rfl) (fun _ h => h)
theorem op64 : Opens Try.prog 64 (eL DArchivedRound.e) (okL DArchivedRound.ok) := opens_slice Try.underlying64 (of_decide_eq_true (by kernel_rfl)) op212
/-- A Archive. -/
structure DArchive where
  Rows : Int
  Rounds : (List DArchivedRound)
def DArchive.e (x : DArchive) : List T := [I x.Rows, L DArchivedRound.e x.Rounds]
def DArchive.r (x : DArchive) : List RC := [.s (I x.Rows), .l 2 (x.Rounds.map DArchivedRound.e)]
def DArchive.ok (x : DArchive) : Prop := okI x.Rows ∧ (okL DArchivedRound.ok) x.Rounds
theorem op66 : Opens Try.prog 66 DArchive.e DArchive.ok := (opens_struct Try.underlying66 (opensF_cons (by kernel_rfl) (opens_i64 Try.underlying3) (opensF_one (by kernel_rfl) (by kernel_rfl) op64))).conv (fun p => ⟨p.1, p.2⟩) (fun _ => rfl) (fun _ h => h)
theorem op67 : Opens Try.prog 67 (eL eI) (okL okI) := opens_slice Try.underlying67 (of_decide_eq_true (by kernel_rfl)) (opens_i64 Try.underlying3)
/-- A World. -/
structure DWorld where
  Rows : Int
  Servers : (List DServer)
  Devices : (List DDevice)
  Archive : DArchive
  Master : Int
  Seed : Int
  Round : Int
  Replaced : (List Int)
  Cancelled : Int
def DWorld.e (x : DWorld) : List T := [I x.Rows, L DServer.e x.Servers, L DDevice.e x.Devices, I x.Archive.Rows, L DArchivedRound.e x.Archive.Rounds, I x.Master, I x.Seed, I x.Round, L eI x.Replaced, I x.Cancelled]
def DWorld.r (x : DWorld) : List RC := [.s (I x.Rows), .l 5 (x.Servers.map DServer.e), .l 16 (x.Devices.map DDevice.e), .s (I x.Archive.Rows), .l 2 (x.Archive.Rounds.map DArchivedRound.e), .s (I x.Master), .s (I x.Seed), .s (I x.Round), .l 1 (x.Replaced.map eI), .s (I x.Cancelled)]
def DWorld.ok (x : DWorld) : Prop := okI x.Rows ∧ (okL DServer.ok) x.Servers ∧ (okL DDevice.ok) x.Devices ∧ DArchive.ok x.Archive ∧ okI x.Master ∧ okI x.Seed ∧ okI x.Round ∧ (okL okI) x.Replaced ∧ okI x.Cancelled
theorem op69 : Opens Try.prog 69 DWorld.e DWorld.ok := (opens_struct Try.underlying69 (opensF_cons (by kernel_rfl) (opens_i64 Try.underlying3) (opensF_cons (by kernel_rfl) op62 (opensF_cons (by kernel_rfl) op63 (opensF_cons (by kernel_rfl) op66 (opensF_cons (by kernel_rfl) (opens_i64 Try.underlying3) (opensF_cons (by kernel_rfl) (opens_i64 Try.underlying3) (opensF_cons (by kernel_rfl) (opens_i64 Try.underlying3) (opensF_cons (by kernel_rfl) op67 (opensF_one (by kernel_rfl) (by kernel_rfl) (opens_i64 Try.underlying3))))))))))).conv (fun p => ⟨p.1, p.2.1, p.2.2.1, p.2.2.2.1, p.2.2.2.2.1, p.2.2.2.2.2.1, p.2.2.2.2.2.2.1, p.2.2.2.2.2.2.2.1, p.2.2.2.2.2.2.2.2⟩) (fun _ => rfl) (fun _ h => h)
theorem op72 : Opens Try.prog 72 (eL DServer.e) (okL DServer.ok) := opens_slice Try.underlying72 (of_decide_eq_true (by kernel_rfl)) op52
theorem op85 : Opens Try.prog 85 DDevice.e DDevice.ok := (opens_struct Try.underlying85 (opensF_cons (by kernel_rfl) op29 (opensF_one (by kernel_rfl) (by kernel_rfl) op29))).conv (fun p => ⟨p.1, p.2⟩) (fun _ => rfl) (fun _ h => h)
theorem op73 : Opens Try.prog 73 (eL DDevice.e) (okL DDevice.ok) := opens_slice Try.underlying73 (of_decide_eq_true (by kernel_rfl)) op85
theorem op196 : Opens Try.prog 196 DArchivedRound.e DArchivedRound.ok := (opens_struct Try.underlying196 (opensF_cons (by kernel_rfl) (opens_i64 Try.underlying3) (opensF_one (by kernel_rfl) (by kernel_rfl) op54))).conv (fun p => ⟨p.1, p.2⟩) (fun _ => rfl) (fun _ h => h)
theorem op74 : Opens Try.prog 74 (eL DArchivedRound.e) (okL DArchivedRound.ok) := opens_slice Try.underlying74 (of_decide_eq_true (by kernel_rfl)) op196
theorem op76 : Opens Try.prog 76 DArchive.e DArchive.ok := (opens_struct Try.underlying76 (opensF_cons (by kernel_rfl) (opens_i64 Try.underlying3) (opensF_one (by kernel_rfl) (by kernel_rfl) op74))).conv (fun p => ⟨p.1, p.2⟩) (fun _ => rfl) (fun _ h => h)
theorem op78 : Opens Try.prog 78 DWorld.e DWorld.ok := (opens_struct Try.underlying78 (opensF_cons (by kernel_rfl) (opens_i64 Try.underlying3) (opensF_cons (by kernel_rfl) op72 (opensF_cons (by kernel_rfl) op73 (opensF_cons (by kernel_rfl) op76 (opensF_cons (by kernel_rfl) (opens_i64 Try.underlying3) (opensF_cons (by kernel_rfl) (opens_i64 Try.underlying3) (opensF_cons (by kernel_rfl) (opens_i64 Try.underlying3) (opensF_cons (by kernel_rfl) op67 (opensF_one (by kernel_rfl) (by kernel_rfl) (opens_i64 Try.underlying3))))))))))).conv (fun p => ⟨p.1, p.2.1, p.2.2.1, p.2.2.2.1, p.2.2.2.2.1, p.2.2.2.2.2.1, p.2.2.2.2.2.2.1, p.2.2.2.2.2.2.2.1, p.2.2.2.2.2.2.2.2⟩) (fun _ => rfl) (fun _ h => h)
theorem op101 : Opens Try.prog 101 (eL DDatabase.e) (okL DDatabase.ok) := opens_slice Try.underlying101 (of_decide_eq_true (by kernel_rfl)) op44
theorem op106 : Opens Try.prog 106 (eL DDatabase.e) (okL DDatabase.ok) := opens_slice Try.underlying106 (of_decide_eq_true (by kernel_rfl)) op54
/-- A Plain. -/
structure DPlain where
  Kind : Int
  Body : (List UInt8)
def DPlain.e (x : DPlain) : List T := [I x.Kind, L eU x.Body]
def DPlain.r (x : DPlain) : List RC := [.s (I x.Kind), .l 1 (x.Body.map eU)]
def DPlain.ok (x : DPlain) : Prop := okI x.Kind ∧ (okL okU) x.Body
theorem op128 : Opens Try.prog 128 DPlain.e DPlain.ok := (opens_struct Try.underlying128 (opensF_cons (by kernel_rfl) (opens_i64 Try.underlying3) (opensF_one (by kernel_rfl) (by kernel_rfl) op26))).conv (fun p => ⟨p.1, p.2⟩) (fun _ => rfl) (fun _ h => h)
theorem op204 : Opens Try.prog 204 (eL (eL eI)) (okL (okL okI)) := opens_slice Try.underlying204 (of_decide_eq_true (by kernel_rfl)) op67
theorem op224 : Opens Try.prog 224 eU okU := (opens_u8 Try.underlying224)
theorem op225 : Opens Try.prog 225 eU okU := (opens_u8 Try.underlying225)
end Go.Proofs.Ytmkgakabmffibaa
