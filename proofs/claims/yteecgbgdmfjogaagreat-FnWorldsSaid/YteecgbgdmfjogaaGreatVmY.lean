/-
  A structure for each struct type of this seat, its cells, and that a reading of the type opens as these; written by a program of ours off the translation.
  Conditions: none.
-/
import Derived.Test.YteecgbgdmfjogaaGreatVmT
import Derived.Test.YteecgbgdmfjogaaGreatVmW
import Derived.Test.YteecgbgdmfjogaaGreatVmZ
namespace Go.Proofs.YteecgbgdmfjogaaGreat
open Go.Vm Go.RowKit

theorem op2 : Opens Tryz.prog 2 eI okI := (opens_i64 Tryz.underlying2)
theorem op3 : Opens Tryz.prog 3 eI okI := (opens_i64 Tryz.underlying3)
theorem op4 : Opens Tryz.prog 4 eB okB := (opens_bool Tryz.underlying4)
theorem op5 : Opens Tryz.prog 5 eU okU := (opens_u8 Tryz.underlying5)
theorem op6 : Opens Tryz.prog 6 eU okU := (opens_u8 Tryz.underlying6)
theorem op9 : Opens Tryz.prog 9 eS okS := (opens_str Tryz.underlying9)
theorem op10 : Opens Tryz.prog 10 eS okS := (opens_str Tryz.underlying10)
theorem op11 : Opens Tryz.prog 11 eS okS := (opens_str Tryz.underlying11)
theorem op22 : Opens Tryz.prog 22 (eL eU) (okL okU) := opens_slice Tryz.underlying22 (of_decide_eq_true (by kernel_rfl)) (opens_u8 Tryz.underlying5)
theorem op41 : Opens Tryz.prog 41 (eL (eL eU)) (okL (okL okU)) := opens_slice Tryz.underlying41 (of_decide_eq_true (by kernel_rfl)) op22
/-- A Database. -/
structure DDatabase where
  Rows : (List (List UInt8))
def DDatabase.e (x : DDatabase) : List T := [L (eL eU) x.Rows]
def DDatabase.r (x : DDatabase) : List RC := [.l 1 (x.Rows.map (eL eU))]
def DDatabase.ok (x : DDatabase) : Prop := (okL (okL okU)) x.Rows
theorem op91 : Opens Tryz.prog 91 DDatabase.e DDatabase.ok := (opens_struct Tryz.underlying91 (opensF_one (by kernel_rfl) (by kernel_rfl) op41)).conv (fun p => ⟨p⟩) (fun _ => rfl) (fun _ h => h)
/-- A ReceivedShare. -/
structure DReceivedShare where
  Client : Int
  Share : DDatabase
def DReceivedShare.e (x : DReceivedShare) : List T := [I x.Client, L (eL eU) x.Share.Rows]
def DReceivedShare.r (x : DReceivedShare) : List RC := [.s (I x.Client), .l 1 (x.Share.Rows.map (eL eU))]
def DReceivedShare.ok (x : DReceivedShare) : Prop := okI x.Client ∧ DDatabase.ok x.Share
theorem op96 : Opens Tryz.prog 96 DReceivedShare.e DReceivedShare.ok := (opens_struct Tryz.underlying96 (opensF_cons (by kernel_rfl) (opens_i64 Tryz.underlying3) (opensF_one (by kernel_rfl) (by kernel_rfl) op91))).conv (fun p => ⟨p.1, p.2⟩) (fun _ => rfl) (fun _ h => h)
theorem op47 : Opens Tryz.prog 47 (eL DReceivedShare.e) (okL DReceivedShare.ok) := opens_slice Tryz.underlying47 (of_decide_eq_true (by kernel_rfl)) op96
/-- A Server. -/
structure DServer where
  Id : Int
  Rows : Int
  Round : Int
  Received : (List DReceivedShare)
  Behavior : Int
def DServer.e (x : DServer) : List T := [I x.Id, I x.Rows, I x.Round, L DReceivedShare.e x.Received, I x.Behavior]
def DServer.r (x : DServer) : List RC := [.s (I x.Id), .s (I x.Rows), .s (I x.Round), .l 2 (x.Received.map DReceivedShare.e), .s (I x.Behavior)]
def DServer.ok (x : DServer) : Prop := okI x.Id ∧ okI x.Rows ∧ okI x.Round ∧ (okL DReceivedShare.ok) x.Received ∧ okI x.Behavior
theorem op49 : Opens Tryz.prog 49 DServer.e DServer.ok := (opens_struct Tryz.underlying49 (opensF_cons (by kernel_rfl) (opens_i64 Tryz.underlying3) (opensF_cons (by kernel_rfl) (opens_i64 Tryz.underlying3) (opensF_cons (by kernel_rfl) (opens_i64 Tryz.underlying3) (opensF_cons (by kernel_rfl) op47 (opensF_one (by kernel_rfl) (by kernel_rfl) (opens_i64 Tryz.underlying3))))))).conv (fun p => ⟨p.1, p.2.1, p.2.2.1, p.2.2.2.1, p.2.2.2.2⟩) (fun _ => rfl) (fun _ h => h)
theorem op26 : Opens Tryz.prog 26 (eL DServer.e) (okL DServer.ok) := opens_slice Tryz.underlying26 (of_decide_eq_true (by kernel_rfl)) op49
/-- A Client. -/
structure DClient where
  Id : Int
  Friend : Int
  Key : Int
  Seed : Int
  Submitted : (List (List UInt8))
  Sent : Int
  Inbox : (List (List UInt8))
  Next : Int
def DClient.e (x : DClient) : List T := [I x.Id, I x.Friend, I x.Key, I x.Seed, L (eL eU) x.Submitted, I x.Sent, L (eL eU) x.Inbox, I x.Next]
def DClient.r (x : DClient) : List RC := [.s (I x.Id), .s (I x.Friend), .s (I x.Key), .s (I x.Seed), .l 1 (x.Submitted.map (eL eU)), .s (I x.Sent), .l 1 (x.Inbox.map (eL eU)), .s (I x.Next)]
def DClient.ok (x : DClient) : Prop := okI x.Id ∧ okI x.Friend ∧ okI x.Key ∧ okI x.Seed ∧ (okL (okL okU)) x.Submitted ∧ okI x.Sent ∧ (okL (okL okU)) x.Inbox ∧ okI x.Next
theorem op43 : Opens Tryz.prog 43 DClient.e DClient.ok := (opens_struct Tryz.underlying43 (opensF_cons (by kernel_rfl) (opens_i64 Tryz.underlying3) (opensF_cons (by kernel_rfl) (opens_i64 Tryz.underlying3) (opensF_cons (by kernel_rfl) (opens_i64 Tryz.underlying3) (opensF_cons (by kernel_rfl) (opens_i64 Tryz.underlying3) (opensF_cons (by kernel_rfl) op41 (opensF_cons (by kernel_rfl) (opens_i64 Tryz.underlying3) (opensF_cons (by kernel_rfl) op41 (opensF_one (by kernel_rfl) (by kernel_rfl) (opens_i64 Tryz.underlying3)))))))))).conv (fun p => ⟨p.1, p.2.1, p.2.2.1, p.2.2.2.1, p.2.2.2.2.1, p.2.2.2.2.2.1, p.2.2.2.2.2.2.1, p.2.2.2.2.2.2.2⟩) (fun _ => rfl) (fun _ h => h)
/-- A Device. -/
structure DDevice where
  Live : DClient
  Saved : DClient
def DDevice.e (x : DDevice) : List T := [I x.Live.Id, I x.Live.Friend, I x.Live.Key, I x.Live.Seed, L (eL eU) x.Live.Submitted, I x.Live.Sent, L (eL eU) x.Live.Inbox, I x.Live.Next, I x.Saved.Id, I x.Saved.Friend, I x.Saved.Key, I x.Saved.Seed, L (eL eU) x.Saved.Submitted, I x.Saved.Sent, L (eL eU) x.Saved.Inbox, I x.Saved.Next]
def DDevice.r (x : DDevice) : List RC := [.s (I x.Live.Id), .s (I x.Live.Friend), .s (I x.Live.Key), .s (I x.Live.Seed), .l 1 (x.Live.Submitted.map (eL eU)), .s (I x.Live.Sent), .l 1 (x.Live.Inbox.map (eL eU)), .s (I x.Live.Next), .s (I x.Saved.Id), .s (I x.Saved.Friend), .s (I x.Saved.Key), .s (I x.Saved.Seed), .l 1 (x.Saved.Submitted.map (eL eU)), .s (I x.Saved.Sent), .l 1 (x.Saved.Inbox.map (eL eU)), .s (I x.Saved.Next)]
def DDevice.ok (x : DDevice) : Prop := DClient.ok x.Live ∧ DClient.ok x.Saved
theorem op45 : Opens Tryz.prog 45 DDevice.e DDevice.ok := (opens_struct Tryz.underlying45 (opensF_cons (by kernel_rfl) op43 (opensF_one (by kernel_rfl) (by kernel_rfl) op43))).conv (fun p => ⟨p.1, p.2⟩) (fun _ => rfl) (fun _ h => h)
theorem op27 : Opens Tryz.prog 27 (eL DDevice.e) (okL DDevice.ok) := opens_slice Tryz.underlying27 (of_decide_eq_true (by kernel_rfl)) op45
/-- A ArchivedRound. -/
structure DArchivedRound where
  Round : Int
  Database : DDatabase
def DArchivedRound.e (x : DArchivedRound) : List T := [I x.Round, L (eL eU) x.Database.Rows]
def DArchivedRound.r (x : DArchivedRound) : List RC := [.s (I x.Round), .l 1 (x.Database.Rows.map (eL eU))]
def DArchivedRound.ok (x : DArchivedRound) : Prop := okI x.Round ∧ DDatabase.ok x.Database
theorem op93 : Opens Tryz.prog 93 DArchivedRound.e DArchivedRound.ok := (opens_struct Tryz.underlying93 (opensF_cons (by kernel_rfl) (opens_i64 Tryz.underlying3) (opensF_one (by kernel_rfl) (by kernel_rfl) op91))).conv (fun p => ⟨p.1, p.2⟩) (fun _ => rfl) (fun _ h => h)
theorem op28 : Opens Tryz.prog 28 (eL DArchivedRound.e) (okL DArchivedRound.ok) := opens_slice Tryz.underlying28 (of_decide_eq_true (by kernel_rfl)) op93
/-- A Archive. -/
structure DArchive where
  Rows : Int
  Rounds : (List DArchivedRound)
def DArchive.e (x : DArchive) : List T := [I x.Rows, L DArchivedRound.e x.Rounds]
def DArchive.r (x : DArchive) : List RC := [.s (I x.Rows), .l 2 (x.Rounds.map DArchivedRound.e)]
def DArchive.ok (x : DArchive) : Prop := okI x.Rows ∧ (okL DArchivedRound.ok) x.Rounds
theorem op30 : Opens Tryz.prog 30 DArchive.e DArchive.ok := (opens_struct Tryz.underlying30 (opensF_cons (by kernel_rfl) (opens_i64 Tryz.underlying3) (opensF_one (by kernel_rfl) (by kernel_rfl) op28))).conv (fun p => ⟨p.1, p.2⟩) (fun _ => rfl) (fun _ h => h)
theorem op31 : Opens Tryz.prog 31 (eL eI) (okL okI) := opens_slice Tryz.underlying31 (of_decide_eq_true (by kernel_rfl)) (opens_i64 Tryz.underlying3)
/-- A World. -/
structure DWorld where
  Rows : Int
  Servers : (List DServer)
  Devices : (List DDevice)
  Archive : DArchive
  Master : Int
  Seed : Int
  Round : Int
  Replaced : (List Int)
  Cancelled : Int
def DWorld.e (x : DWorld) : List T := [I x.Rows, L DServer.e x.Servers, L DDevice.e x.Devices, I x.Archive.Rows, L DArchivedRound.e x.Archive.Rounds, I x.Master, I x.Seed, I x.Round, L eI x.Replaced, I x.Cancelled]
def DWorld.r (x : DWorld) : List RC := [.s (I x.Rows), .l 5 (x.Servers.map DServer.e), .l 16 (x.Devices.map DDevice.e), .s (I x.Archive.Rows), .l 2 (x.Archive.Rounds.map DArchivedRound.e), .s (I x.Master), .s (I x.Seed), .s (I x.Round), .l 1 (x.Replaced.map eI), .s (I x.Cancelled)]
def DWorld.ok (x : DWorld) : Prop := okI x.Rows ∧ (okL DServer.ok) x.Servers ∧ (okL DDevice.ok) x.Devices ∧ DArchive.ok x.Archive ∧ okI x.Master ∧ okI x.Seed ∧ okI x.Round ∧ (okL okI) x.Replaced ∧ okI x.Cancelled
theorem op33 : Opens Tryz.prog 33 DWorld.e DWorld.ok := (opens_struct Tryz.underlying33 (opensF_cons (by kernel_rfl) (opens_i64 Tryz.underlying3) (opensF_cons (by kernel_rfl) op26 (opensF_cons (by kernel_rfl) op27 (opensF_cons (by kernel_rfl) op30 (opensF_cons (by kernel_rfl) (opens_i64 Tryz.underlying3) (opensF_cons (by kernel_rfl) (opens_i64 Tryz.underlying3) (opensF_cons (by kernel_rfl) (opens_i64 Tryz.underlying3) (opensF_cons (by kernel_rfl) op31 (opensF_one (by kernel_rfl) (by kernel_rfl) (opens_i64 Tryz.underlying3))))))))))).conv (fun p => ⟨p.1, p.2.1, p.2.2.1, p.2.2.2.1, p.2.2.2.2.1, p.2.2.2.2.2.1, p.2.2.2.2.2.2.1, p.2.2.2.2.2.2.2.1, p.2.2.2.2.2.2.2.2⟩) (fun _ => rfl) (fun _ h => h)
/-- A l1Cur. -/
structure Dl1Cur where
  b : (List UInt8)
  i : Int
  h : Int
def Dl1Cur.e (x : Dl1Cur) : List T := [L eU x.b, I x.i, I x.h]
def Dl1Cur.r (x : Dl1Cur) : List RC := [.l 1 (x.b.map eU), .s (I x.i), .s (I x.h)]
def Dl1Cur.ok (x : Dl1Cur) : Prop := (okL okU) x.b ∧ okI x.i ∧ okI x.h
theorem op86 : Opens Tryz.prog 86 Dl1Cur.e Dl1Cur.ok := (opens_struct Tryz.underlying86 (opensF_cons (by kernel_rfl) op22 (opensF_cons (by kernel_rfl) (opens_i64 Tryz.underlying3) (opensF_one (by kernel_rfl) (by kernel_rfl) (opens_i64 Tryz.underlying3))))).conv (fun p => ⟨p.1, p.2.1, p.2.2⟩) (fun _ => rfl) (fun _ h => h)
theorem op115 : Opens Tryz.prog 115 (eL (eL eI)) (okL (okL okI)) := opens_slice Tryz.underlying115 (of_decide_eq_true (by kernel_rfl)) op31
/-- A Plain. -/
structure DPlain where
  Kind : Int
  Body : (List UInt8)
def DPlain.e (x : DPlain) : List T := [I x.Kind, L eU x.Body]
def DPlain.r (x : DPlain) : List RC := [.s (I x.Kind), .l 1 (x.Body.map eU)]
def DPlain.ok (x : DPlain) : Prop := okI x.Kind ∧ (okL okU) x.Body
theorem op137 : Opens Tryz.prog 137 DPlain.e DPlain.ok := (opens_struct Tryz.underlying137 (opensF_cons (by kernel_rfl) (opens_i64 Tryz.underlying3) (opensF_one (by kernel_rfl) (by kernel_rfl) op22))).conv (fun p => ⟨p.1, p.2⟩) (fun _ => rfl) (fun _ h => h)
theorem op155 : Opens Tryz.prog 155 eU okU := (opens_u8 Tryz.underlying155)
theorem op156 : Opens Tryz.prog 156 eU okU := (opens_u8 Tryz.underlying156)
end Go.Proofs.YteecgbgdmfjogaaGreat
