/-
  A structure for each struct type of this seat, its cells, and that a reading of the type opens as these; written by a program of ours off the translation.
  Conditions: none.
-/
import Derived.Test.YtmaamiapipngaaaGreatVmT
import Derived.Test.YtmaamiapipngaaaGreatVmW
import Derived.Test.YtmaamiapipngaaaGreatVmZ
namespace Go.Proofs.YtmaamiapipngaaaGreat
open Go.Vm Go.RowKit

theorem op2 : Opens Tryz.prog 2 eI okI := (opens_i64 Tryz.underlying2)
theorem op3 : Opens Tryz.prog 3 eI okI := (opens_i64 Tryz.underlying3)
theorem op4 : Opens Tryz.prog 4 eB okB := (opens_bool Tryz.underlying4)
theorem op5 : Opens Tryz.prog 5 eU okU := (opens_u8 Tryz.underlying5)
theorem op6 : Opens Tryz.prog 6 eU okU := (opens_u8 Tryz.underlying6)
theorem op9 : Opens Tryz.prog 9 eS okS := (opens_str Tryz.underlying9)
theorem op10 : Opens Tryz.prog 10 eS okS := (opens_str Tryz.underlying10)
theorem op11 : Opens Tryz.prog 11 eS okS := (opens_str Tryz.underlying11)
theorem op31 : Opens Tryz.prog 31 (eL eU) (okL okU) := opens_slice Tryz.underlying31 (of_decide_eq_true (by kernel_rfl)) (opens_u8 Tryz.underlying5)
theorem op56 : Opens Tryz.prog 56 (eL (eL eU)) (okL (okL okU)) := opens_slice Tryz.underlying56 (of_decide_eq_true (by kernel_rfl)) op31
/-- A Database. -/
structure DDatabase where
  Rows : (List (List UInt8))
def DDatabase.e (x : DDatabase) : List T := [L (eL eU) x.Rows]
def DDatabase.r (x : DDatabase) : List RC := [.l 1 (x.Rows.map (eL eU))]
def DDatabase.ok (x : DDatabase) : Prop := (okL (okL okU)) x.Rows
theorem op122 : Opens Tryz.prog 122 DDatabase.e DDatabase.ok := (opens_struct Tryz.underlying122 (opensF_one (by kernel_rfl) (by kernel_rfl) op56)).conv (fun p => ⟨p⟩) (fun _ => rfl) (fun _ h => h)
/-- A ReceivedShare. -/
structure DReceivedShare where
  Client : Int
  Share : DDatabase
def DReceivedShare.e (x : DReceivedShare) : List T := [I x.Client, L (eL eU) x.Share.Rows]
def DReceivedShare.r (x : DReceivedShare) : List RC := [.s (I x.Client), .l 1 (x.Share.Rows.map (eL eU))]
def DReceivedShare.ok (x : DReceivedShare) : Prop := okI x.Client ∧ DDatabase.ok x.Share
theorem op148 : Opens Tryz.prog 148 DReceivedShare.e DReceivedShare.ok := (opens_struct Tryz.underlying148 (opensF_cons (by kernel_rfl) (opens_i64 Tryz.underlying3) (opensF_one (by kernel_rfl) (by kernel_rfl) op122))).conv (fun p => ⟨p.1, p.2⟩) (fun _ => rfl) (fun _ h => h)
theorem op82 : Opens Tryz.prog 82 (eL DReceivedShare.e) (okL DReceivedShare.ok) := opens_slice Tryz.underlying82 (of_decide_eq_true (by kernel_rfl)) op148
/-- A Server. -/
structure DServer where
  Id : Int
  Rows : Int
  Round : Int
  Received : (List DReceivedShare)
  Behavior : Int
def DServer.e (x : DServer) : List T := [I x.Id, I x.Rows, I x.Round, L DReceivedShare.e x.Received, I x.Behavior]
def DServer.r (x : DServer) : List RC := [.s (I x.Id), .s (I x.Rows), .s (I x.Round), .l 2 (x.Received.map DReceivedShare.e), .s (I x.Behavior)]
def DServer.ok (x : DServer) : Prop := okI x.Id ∧ okI x.Rows ∧ okI x.Round ∧ (okL DReceivedShare.ok) x.Received ∧ okI x.Behavior
theorem op84 : Opens Tryz.prog 84 DServer.e DServer.ok := (opens_struct Tryz.underlying84 (opensF_cons (by kernel_rfl) (opens_i64 Tryz.underlying3) (opensF_cons (by kernel_rfl) (opens_i64 Tryz.underlying3) (opensF_cons (by kernel_rfl) (opens_i64 Tryz.underlying3) (opensF_cons (by kernel_rfl) op82 (opensF_one (by kernel_rfl) (by kernel_rfl) (opens_i64 Tryz.underlying3))))))).conv (fun p => ⟨p.1, p.2.1, p.2.2.1, p.2.2.2.1, p.2.2.2.2⟩) (fun _ => rfl) (fun _ h => h)
theorem op22 : Opens Tryz.prog 22 (eL DServer.e) (okL DServer.ok) := opens_slice Tryz.underlying22 (of_decide_eq_true (by kernel_rfl)) op84
/-- A Client. -/
structure DClient where
  Id : Int
  Friend : Int
  Key : Int
  Seed : Int
  Submitted : (List (List UInt8))
  Sent : Int
  Inbox : (List (List UInt8))
  Next : Int
def DClient.e (x : DClient) : List T := [I x.Id, I x.Friend, I x.Key, I x.Seed, L (eL eU) x.Submitted, I x.Sent, L (eL eU) x.Inbox, I x.Next]
def DClient.r (x : DClient) : List RC := [.s (I x.Id), .s (I x.Friend), .s (I x.Key), .s (I x.Seed), .l 1 (x.Submitted.map (eL eU)), .s (I x.Sent), .l 1 (x.Inbox.map (eL eU)), .s (I x.Next)]
def DClient.ok (x : DClient) : Prop := okI x.Id ∧ okI x.Friend ∧ okI x.Key ∧ okI x.Seed ∧ (okL (okL okU)) x.Submitted ∧ okI x.Sent ∧ (okL (okL okU)) x.Inbox ∧ okI x.Next
theorem op87 : Opens Tryz.prog 87 DClient.e DClient.ok := (opens_struct Tryz.underlying87 (opensF_cons (by kernel_rfl) (opens_i64 Tryz.underlying3) (opensF_cons (by kernel_rfl) (opens_i64 Tryz.underlying3) (opensF_cons (by kernel_rfl) (opens_i64 Tryz.underlying3) (opensF_cons (by kernel_rfl) (opens_i64 Tryz.underlying3) (opensF_cons (by kernel_rfl) op56 (opensF_cons (by kernel_rfl) (opens_i64 Tryz.underlying3) (opensF_cons (by kernel_rfl) op56 (opensF_one (by kernel_rfl) (by kernel_rfl) (opens_i64 Tryz.underlying3)))))))))).conv (fun p => ⟨p.1, p.2.1, p.2.2.1, p.2.2.2.1, p.2.2.2.2.1, p.2.2.2.2.2.1, p.2.2.2.2.2.2.1, p.2.2.2.2.2.2.2⟩) (fun _ => rfl) (fun _ h => h)
/-- A Device. -/
structure DDevice where
  Live : DClient
  Saved : DClient
def DDevice.e (x : DDevice) : List T := [I x.Live.Id, I x.Live.Friend, I x.Live.Key, I x.Live.Seed, L (eL eU) x.Live.Submitted, I x.Live.Sent, L (eL eU) x.Live.Inbox, I x.Live.Next, I x.Saved.Id, I x.Saved.Friend, I x.Saved.Key, I x.Saved.Seed, L (eL eU) x.Saved.Submitted, I x.Saved.Sent, L (eL eU) x.Saved.Inbox, I x.Saved.Next]
def DDevice.r (x : DDevice) : List RC := [.s (I x.Live.Id), .s (I x.Live.Friend), .s (I x.Live.Key), .s (I x.Live.Seed), .l 1 (x.Live.Submitted.map (eL eU)), .s (I x.Live.Sent), .l 1 (x.Live.Inbox.map (eL eU)), .s (I x.Live.Next), .s (I x.Saved.Id), .s (I x.Saved.Friend), .s (I x.Saved.Key), .s (I x.Saved.Seed), .l 1 (x.Saved.Submitted.map (eL eU)), .s (I x.Saved.Sent), .l 1 (x.Saved.Inbox.map (eL eU)), .s (I x.Saved.Next)]
def DDevice.ok (x : DDevice) : Prop := DClient.ok x.Live ∧ DClient.ok x.Saved
theorem op89 : Opens Tryz.prog 89 DDevice.e DDevice.ok := (opens_struct Tryz.underlying89 (opensF_cons (by kernel_rfl) op87 (opensF_one (by kernel_rfl) (by kernel_rfl) op87))).conv (fun p => ⟨p.1, p.2⟩) (fun _ => rfl) (fun _ h => h)
theorem op23 : Opens Tryz.prog 23 (eL DDevice.e) (okL DDevice.ok) := opens_slice Tryz.underlying23 (of_decide_eq_true (by kernel_rfl)) op89
/-- A ArchivedRound. -/
structure DArchivedRound where
  Round : Int
  Database : DDatabase
def DArchivedRound.e (x : DArchivedRound) : List T := [I x.Round, L (eL eU) x.Database.Rows]
def DArchivedRound.r (x : DArchivedRound) : List RC := [.s (I x.Round), .l 1 (x.Database.Rows.map (eL eU))]
def DArchivedRound.ok (x : DArchivedRound) : Prop := okI x.Round ∧ DDatabase.ok x.Database
theorem op124 : Opens Tryz.prog 124 DArchivedRound.e DArchivedRound.ok := (opens_struct Tryz.underlying124 (opensF_cons (by kernel_rfl) (opens_i64 Tryz.underlying3) (opensF_one (by kernel_rfl) (by kernel_rfl) op122))).conv (fun p => ⟨p.1, p.2⟩) (fun _ => rfl) (fun _ h => h)
theorem op24 : Opens Tryz.prog 24 (eL DArchivedRound.e) (okL DArchivedRound.ok) := opens_slice Tryz.underlying24 (of_decide_eq_true (by kernel_rfl)) op124
/-- A Archive. -/
structure DArchive where
  Rows : Int
  Rounds : (List DArchivedRound)
def DArchive.e (x : DArchive) : List T := [I x.Rows, L DArchivedRound.e x.Rounds]
def DArchive.r (x : DArchive) : List RC := [.s (I x.Rows), .l 2 (x.Rounds.map DArchivedRound.e)]
def DArchive.ok (x : DArchive) : Prop := okI x.Rows ∧ (okL DArchivedRound.ok) x.Rounds
theorem op26 : Opens Tryz.prog 26 DArchive.e DArchive.ok := (opens_struct Tryz.underlying26 (opensF_cons (by kernel_rfl) (opens_i64 Tryz.underlying3) (opensF_one (by kernel_rfl) (by kernel_rfl) op24))).conv (fun p => ⟨p.1, p.2⟩) (fun _ => rfl) (fun _ h => h)
theorem op27 : Opens Tryz.prog 27 (eL eI) (okL okI) := opens_slice Tryz.underlying27 (of_decide_eq_true (by kernel_rfl)) (opens_i64 Tryz.underlying3)
/-- A World. -/
structure DWorld where
  Rows : Int
  Servers : (List DServer)
  Devices : (List DDevice)
  Archive : DArchive
  Master : Int
  Seed : Int
  Round : Int
  Replaced : (List Int)
  Cancelled : Int
def DWorld.e (x : DWorld) : List T := [I x.Rows, L DServer.e x.Servers, L DDevice.e x.Devices, I x.Archive.Rows, L DArchivedRound.e x.Archive.Rounds, I x.Master, I x.Seed, I x.Round, L eI x.Replaced, I x.Cancelled]
def DWorld.r (x : DWorld) : List RC := [.s (I x.Rows), .l 5 (x.Servers.map DServer.e), .l 16 (x.Devices.map DDevice.e), .s (I x.Archive.Rows), .l 2 (x.Archive.Rounds.map DArchivedRound.e), .s (I x.Master), .s (I x.Seed), .s (I x.Round), .l 1 (x.Replaced.map eI), .s (I x.Cancelled)]
def DWorld.ok (x : DWorld) : Prop := okI x.Rows ∧ (okL DServer.ok) x.Servers ∧ (okL DDevice.ok) x.Devices ∧ DArchive.ok x.Archive ∧ okI x.Master ∧ okI x.Seed ∧ okI x.Round ∧ (okL okI) x.Replaced ∧ okI x.Cancelled
theorem op29 : Opens Tryz.prog 29 DWorld.e DWorld.ok := (opens_struct Tryz.underlying29 (opensF_cons (by kernel_rfl) (opens_i64 Tryz.underlying3) (opensF_cons (by kernel_rfl) op22 (opensF_cons (by kernel_rfl) op23 (opensF_cons (by kernel_rfl) op26 (opensF_cons (by kernel_rfl) (opens_i64 Tryz.underlying3) (opensF_cons (by kernel_rfl) (opens_i64 Tryz.underlying3) (opensF_cons (by kernel_rfl) (opens_i64 Tryz.underlying3) (opensF_cons (by kernel_rfl) op27 (opensF_one (by kernel_rfl) (by kernel_rfl) (opens_i64 Tryz.underlying3))))))))))).conv (fun p => ⟨p.1, p.2.1, p.2.2.1, p.2.2.2.1, p.2.2.2.2.1, p.2.2.2.2.2.1, p.2.2.2.2.2.2.1, p.2.2.2.2.2.2.2.1, p.2.2.2.2.2.2.2.2⟩) (fun _ => rfl) (fun _ h => h)
theorem op58 : Opens Tryz.prog 58 DDatabase.e DDatabase.ok := (opens_struct Tryz.underlying58 (opensF_one (by kernel_rfl) (by kernel_rfl) op56)).conv (fun p => ⟨p⟩) (fun _ => rfl) (fun _ h => h)
theorem op133 : Opens Tryz.prog 133 DReceivedShare.e DReceivedShare.ok := (opens_struct Tryz.underlying133 (opensF_cons (by kernel_rfl) (opens_i64 Tryz.underlying3) (opensF_one (by kernel_rfl) (by kernel_rfl) op58))).conv (fun p => ⟨p.1, p.2⟩) (fun _ => rfl) (fun _ h => h)
theorem op69 : Opens Tryz.prog 69 (eL DReceivedShare.e) (okL DReceivedShare.ok) := opens_slice Tryz.underlying69 (of_decide_eq_true (by kernel_rfl)) op133
theorem op71 : Opens Tryz.prog 71 DServer.e DServer.ok := (opens_struct Tryz.underlying71 (opensF_cons (by kernel_rfl) (opens_i64 Tryz.underlying3) (opensF_cons (by kernel_rfl) (opens_i64 Tryz.underlying3) (opensF_cons (by kernel_rfl) (opens_i64 Tryz.underlying3) (opensF_cons (by kernel_rfl) op69 (opensF_one (by kernel_rfl) (by kernel_rfl) (opens_i64 Tryz.underlying3))))))).conv (fun p => ⟨p.1, p.2.1, p.2.2.1, p.2.2.2.1, p.2.2.2.2⟩) (fun _ => rfl) (fun _ h => h)
theorem op34 : Opens Tryz.prog 34 (eL DServer.e) (okL DServer.ok) := opens_slice Tryz.underlying34 (of_decide_eq_true (by kernel_rfl)) op71
theorem op97 : Opens Tryz.prog 97 DClient.e DClient.ok := (opens_struct Tryz.underlying97 (opensF_cons (by kernel_rfl) (opens_i64 Tryz.underlying3) (opensF_cons (by kernel_rfl) (opens_i64 Tryz.underlying3) (opensF_cons (by kernel_rfl) (opens_i64 Tryz.underlying3) (opensF_cons (by kernel_rfl) (opens_i64 Tryz.underlying3) (opensF_cons (by kernel_rfl) op56 (opensF_cons (by kernel_rfl) (opens_i64 Tryz.underlying3) (opensF_cons (by kernel_rfl) op56 (opensF_one (by kernel_rfl) (by kernel_rfl) (opens_i64 Tryz.underlying3)))))))))).conv (fun p => ⟨p.1, p.2.1, p.2.2.1, p.2.2.2.1, p.2.2.2.2.1, p.2.2.2.2.2.1, p.2.2.2.2.2.2.1, p.2.2.2.2.2.2.2⟩) (fun _ => rfl) (fun _ h => h)
theorem op99 : Opens Tryz.prog 99 DDevice.e DDevice.ok := (opens_struct Tryz.underlying99 (opensF_cons (by kernel_rfl) op97 (opensF_one (by kernel_rfl) (by kernel_rfl) op97))).conv (fun p => ⟨p.1, p.2⟩) (fun _ => rfl) (fun _ h => h)
theorem op35 : Opens Tryz.prog 35 (eL DDevice.e) (okL DDevice.ok) := opens_slice Tryz.underlying35 (of_decide_eq_true (by kernel_rfl)) op99
theorem op103 : Opens Tryz.prog 103 DArchivedRound.e DArchivedRound.ok := (opens_struct Tryz.underlying103 (opensF_cons (by kernel_rfl) (opens_i64 Tryz.underlying3) (opensF_one (by kernel_rfl) (by kernel_rfl) op58))).conv (fun p => ⟨p.1, p.2⟩) (fun _ => rfl) (fun _ h => h)
theorem op36 : Opens Tryz.prog 36 (eL DArchivedRound.e) (okL DArchivedRound.ok) := opens_slice Tryz.underlying36 (of_decide_eq_true (by kernel_rfl)) op103
theorem op38 : Opens Tryz.prog 38 DArchive.e DArchive.ok := (opens_struct Tryz.underlying38 (opensF_cons (by kernel_rfl) (opens_i64 Tryz.underlying3) (opensF_one (by kernel_rfl) (by kernel_rfl) op36))).conv (fun p => ⟨p.1, p.2⟩) (fun _ => rfl) (fun _ h => h)
theorem op40 : Opens Tryz.prog 40 DWorld.e DWorld.ok := (opens_struct Tryz.underlying40 (opensF_cons (by kernel_rfl) (opens_i64 Tryz.underlying3) (opensF_cons (by kernel_rfl) op34 (opensF_cons (by kernel_rfl) op35 (opensF_cons (by kernel_rfl) op38 (opensF_cons (by kernel_rfl) (opens_i64 Tryz.underlying3) (opensF_cons (by kernel_rfl) (opens_i64 Tryz.underlying3) (opensF_cons (by kernel_rfl) (opens_i64 Tryz.underlying3) (opensF_cons (by kernel_rfl) op27 (opensF_one (by kernel_rfl) (by kernel_rfl) (opens_i64 Tryz.underlying3))))))))))).conv (fun p => ⟨p.1, p.2.1, p.2.2.1, p.2.2.2.1, p.2.2.2.2.1, p.2.2.2.2.2.1, p.2.2.2.2.2.2.1, p.2.2.2.2.2.2.2.1, p.2.2.2.2.2.2.2.2⟩) (fun _ => rfl) (fun _ h => h)
/-- A SignedAnswer. -/
structure DSignedAnswer where
  Server : Int
  Round : Int
  Selection : (List Int)
  Data : (List UInt8)
  MAC : Int
def DSignedAnswer.e (x : DSignedAnswer) : List T := [I x.Server, I x.Round, L eI x.Selection, L eU x.Data, I x.MAC]
def DSignedAnswer.r (x : DSignedAnswer) : List RC := [.s (I x.Server), .s (I x.Round), .l 1 (x.Selection.map eI), .l 1 (x.Data.map eU), .s (I x.MAC)]
def DSignedAnswer.ok (x : DSignedAnswer) : Prop := okI x.Server ∧ okI x.Round ∧ (okL okI) x.Selection ∧ (okL okU) x.Data ∧ okI x.MAC
theorem op66 : Opens Tryz.prog 66 DSignedAnswer.e DSignedAnswer.ok := (opens_struct Tryz.underlying66 (opensF_cons (by kernel_rfl) (opens_i64 Tryz.underlying3) (opensF_cons (by kernel_rfl) (opens_i64 Tryz.underlying3) (opensF_cons (by kernel_rfl) op27 (opensF_cons (by kernel_rfl) op31 (opensF_one (by kernel_rfl) (by kernel_rfl) (opens_i64 Tryz.underlying3))))))).conv (fun p => ⟨p.1, p.2.1, p.2.2.1, p.2.2.2.1, p.2.2.2.2⟩) (fun _ => rfl) (fun _ h => h)
theorem op61 : Opens Tryz.prog 61 (eL DSignedAnswer.e) (okL DSignedAnswer.ok) := opens_slice Tryz.underlying61 (of_decide_eq_true (by kernel_rfl)) op66
theorem op62 : Opens Tryz.prog 62 (eL (eL eI)) (okL (okL okI)) := opens_slice Tryz.underlying62 (of_decide_eq_true (by kernel_rfl)) op27
theorem op172 : Opens Tryz.prog 172 eU okU := (opens_u8 Tryz.underlying172)
theorem op173 : Opens Tryz.prog 173 eU okU := (opens_u8 Tryz.underlying173)
end Go.Proofs.YtmaamiapipngaaaGreat
