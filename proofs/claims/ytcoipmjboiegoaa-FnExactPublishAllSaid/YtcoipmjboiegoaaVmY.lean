/-
  A structure for each struct type of this seat, its cells, and that a reading of the type opens as these; written by a program of ours off the translation.
  Conditions: none.
-/
import Derived.Test.YtcoipmjboiegoaaVmT
import Derived.Test.YtcoipmjboiegoaaVmW
import Derived.Test.YtcoipmjboiegoaaVmZ
namespace Go.Proofs.Ytcoipmjboiegoaa
open Go.Vm Go.RowKit

theorem op2 : Opens Try.prog 2 eI okI := (opens_i64 Try.underlying2)
theorem op3 : Opens Try.prog 3 eI okI := (opens_i64 Try.underlying3)
theorem op4 : Opens Try.prog 4 eB okB := (opens_bool Try.underlying4)
theorem op5 : Opens Try.prog 5 eU okU := (opens_u8 Try.underlying5)
theorem op6 : Opens Try.prog 6 eU okU := (opens_u8 Try.underlying6)
theorem op9 : Opens Try.prog 9 eS okS := (opens_str Try.underlying9)
theorem op10 : Opens Try.prog 10 eS okS := (opens_str Try.underlying10)
theorem op11 : Opens Try.prog 11 eS okS := (opens_str Try.underlying11)
theorem op22 : Opens Try.prog 22 (eL eU) (okL okU) := opens_slice Try.underlying22 (of_decide_eq_true (by kernel_rfl)) (opens_u8 Try.underlying5)
theorem op27 : Opens Try.prog 27 (eL (eL eU)) (okL (okL okU)) := opens_slice Try.underlying27 (of_decide_eq_true (by kernel_rfl)) op22
/-- A Database. -/
structure DDatabase where
  Rows : (List (List UInt8))
def DDatabase.e (x : DDatabase) : List T := [L (eL eU) x.Rows]
def DDatabase.r (x : DDatabase) : List RC := [.l 1 (x.Rows.map (eL eU))]
def DDatabase.ok (x : DDatabase) : Prop := (okL (okL okU)) x.Rows
theorem op29 : Opens Try.prog 29 DDatabase.e DDatabase.ok := (opens_struct Try.underlying29 (opensF_one (by kernel_rfl) (by kernel_rfl) op27)).conv (fun p => ⟨p⟩) (fun _ => rfl) (fun _ h => h)
/-- A ArchivedRound. -/
structure DArchivedRound where
  Round : Int
  Database : DDatabase
def DArchivedRound.e (x : DArchivedRound) : List T := [I x.Round, L (eL eU) x.Database.Rows]
def DArchivedRound.r (x : DArchivedRound) : List RC := [.s (I x.Round), .l 1 (x.Database.Rows.map (eL eU))]
def DArchivedRound.ok (x : DArchivedRound) : Prop := okI x.Round ∧ DDatabase.ok x.Database
theorem op93 : Opens Try.prog 93 DArchivedRound.e DArchivedRound.ok := (opens_struct Try.underlying93 (opensF_cons (by kernel_rfl) (opens_i64 Try.underlying3) (opensF_one (by kernel_rfl) (by kernel_rfl) op29))).conv (fun p => ⟨p.1, p.2⟩) (fun _ => rfl) (fun _ h => h)
theorem op24 : Opens Try.prog 24 (eL DArchivedRound.e) (okL DArchivedRound.ok) := opens_slice Try.underlying24 (of_decide_eq_true (by kernel_rfl)) op93
/-- A Archive. -/
structure DArchive where
  Rows : Int
  Rounds : (List DArchivedRound)
def DArchive.e (x : DArchive) : List T := [I x.Rows, L DArchivedRound.e x.Rounds]
def DArchive.r (x : DArchive) : List RC := [.s (I x.Rows), .l 2 (x.Rounds.map DArchivedRound.e)]
def DArchive.ok (x : DArchive) : Prop := okI x.Rows ∧ (okL DArchivedRound.ok) x.Rounds
theorem op26 : Opens Try.prog 26 DArchive.e DArchive.ok := (opens_struct Try.underlying26 (opensF_cons (by kernel_rfl) (opens_i64 Try.underlying3) (opensF_one (by kernel_rfl) (by kernel_rfl) op24))).conv (fun p => ⟨p.1, p.2⟩) (fun _ => rfl) (fun _ h => h)
theorem op37 : Opens Try.prog 37 (eL eI) (okL okI) := opens_slice Try.underlying37 (of_decide_eq_true (by kernel_rfl)) (opens_i64 Try.underlying3)
theorem op67 : Opens Try.prog 67 DDatabase.e DDatabase.ok := (opens_struct Try.underlying67 (opensF_one (by kernel_rfl) (by kernel_rfl) op27)).conv (fun p => ⟨p⟩) (fun _ => rfl) (fun _ h => h)
/-- A ReceivedShare. -/
structure DReceivedShare where
  Client : Int
  Share : DDatabase
def DReceivedShare.e (x : DReceivedShare) : List T := [I x.Client, L (eL eU) x.Share.Rows]
def DReceivedShare.r (x : DReceivedShare) : List RC := [.s (I x.Client), .l 1 (x.Share.Rows.map (eL eU))]
def DReceivedShare.ok (x : DReceivedShare) : Prop := okI x.Client ∧ DDatabase.ok x.Share
theorem op176 : Opens Try.prog 176 DReceivedShare.e DReceivedShare.ok := (opens_struct Try.underlying176 (opensF_cons (by kernel_rfl) (opens_i64 Try.underlying3) (opensF_one (by kernel_rfl) (by kernel_rfl) op67))).conv (fun p => ⟨p.1, p.2⟩) (fun _ => rfl) (fun _ h => h)
theorem op98 : Opens Try.prog 98 (eL DReceivedShare.e) (okL DReceivedShare.ok) := opens_slice Try.underlying98 (of_decide_eq_true (by kernel_rfl)) op176
/-- A Server. -/
structure DServer where
  Id : Int
  Rows : Int
  Round : Int
  Received : (List DReceivedShare)
  Behavior : Int
def DServer.e (x : DServer) : List T := [I x.Id, I x.Rows, I x.Round, L DReceivedShare.e x.Received, I x.Behavior]
def DServer.r (x : DServer) : List RC := [.s (I x.Id), .s (I x.Rows), .s (I x.Round), .l 2 (x.Received.map DReceivedShare.e), .s (I x.Behavior)]
def DServer.ok (x : DServer) : Prop := okI x.Id ∧ okI x.Rows ∧ okI x.Round ∧ (okL DReceivedShare.ok) x.Received ∧ okI x.Behavior
theorem op100 : Opens Try.prog 100 DServer.e DServer.ok := (opens_struct Try.underlying100 (opensF_cons (by kernel_rfl) (opens_i64 Try.underlying3) (opensF_cons (by kernel_rfl) (opens_i64 Try.underlying3) (opensF_cons (by kernel_rfl) (opens_i64 Try.underlying3) (opensF_cons (by kernel_rfl) op98 (opensF_one (by kernel_rfl) (by kernel_rfl) (opens_i64 Try.underlying3))))))).conv (fun p => ⟨p.1, p.2.1, p.2.2.1, p.2.2.2.1, p.2.2.2.2⟩) (fun _ => rfl) (fun _ h => h)
theorem op43 : Opens Try.prog 43 (eL DServer.e) (okL DServer.ok) := opens_slice Try.underlying43 (of_decide_eq_true (by kernel_rfl)) op100
theorem op45 : Opens Try.prog 45 (eL DDatabase.e) (okL DDatabase.ok) := opens_slice Try.underlying45 (of_decide_eq_true (by kernel_rfl)) op29
theorem op150 : Opens Try.prog 150 DReceivedShare.e DReceivedShare.ok := (opens_struct Try.underlying150 (opensF_cons (by kernel_rfl) (opens_i64 Try.underlying3) (opensF_one (by kernel_rfl) (by kernel_rfl) op29))).conv (fun p => ⟨p.1, p.2⟩) (fun _ => rfl) (fun _ h => h)
theorem op102 : Opens Try.prog 102 (eL DReceivedShare.e) (okL DReceivedShare.ok) := opens_slice Try.underlying102 (of_decide_eq_true (by kernel_rfl)) op150
theorem op104 : Opens Try.prog 104 DServer.e DServer.ok := (opens_struct Try.underlying104 (opensF_cons (by kernel_rfl) (opens_i64 Try.underlying3) (opensF_cons (by kernel_rfl) (opens_i64 Try.underlying3) (opensF_cons (by kernel_rfl) (opens_i64 Try.underlying3) (opensF_cons (by kernel_rfl) op102 (opensF_one (by kernel_rfl) (by kernel_rfl) (opens_i64 Try.underlying3))))))).conv (fun p => ⟨p.1, p.2.1, p.2.2.1, p.2.2.2.1, p.2.2.2.2⟩) (fun _ => rfl) (fun _ h => h)
theorem op47 : Opens Try.prog 47 (eL DServer.e) (okL DServer.ok) := opens_slice Try.underlying47 (of_decide_eq_true (by kernel_rfl)) op104
/-- A Client. -/
structure DClient where
  Id : Int
  Friend : Int
  Key : Int
  Seed : Int
  Submitted : (List (List UInt8))
  Sent : Int
  Inbox : (List (List UInt8))
  Next : Int
def DClient.e (x : DClient) : List T := [I x.Id, I x.Friend, I x.Key, I x.Seed, L (eL eU) x.Submitted, I x.Sent, L (eL eU) x.Inbox, I x.Next]
def DClient.r (x : DClient) : List RC := [.s (I x.Id), .s (I x.Friend), .s (I x.Key), .s (I x.Seed), .l 1 (x.Submitted.map (eL eU)), .s (I x.Sent), .l 1 (x.Inbox.map (eL eU)), .s (I x.Next)]
def DClient.ok (x : DClient) : Prop := okI x.Id ∧ okI x.Friend ∧ okI x.Key ∧ okI x.Seed ∧ (okL (okL okU)) x.Submitted ∧ okI x.Sent ∧ (okL (okL okU)) x.Inbox ∧ okI x.Next
theorem op55 : Opens Try.prog 55 DClient.e DClient.ok := (opens_struct Try.underlying55 (opensF_cons (by kernel_rfl) (opens_i64 Try.underlying3) (opensF_cons (by kernel_rfl) (opens_i64 Try.underlying3) (opensF_cons (by kernel_rfl) (opens_i64 Try.underlying3) (opensF_cons (by kernel_rfl) (opens_i64 Try.underlying3) (opensF_cons (by kernel_rfl) op27 (opensF_cons (by kernel_rfl) (opens_i64 Try.underlying3) (opensF_cons (by kernel_rfl) op27 (opensF_one (by kernel_rfl) (by kernel_rfl) (opens_i64 Try.underlying3)))))))))).conv (fun p => ⟨p.1, p.2.1, p.2.2.1, p.2.2.2.1, p.2.2.2.2.1, p.2.2.2.2.2.1, p.2.2.2.2.2.2.1, p.2.2.2.2.2.2.2⟩) (fun _ => rfl) (fun _ h => h)
/-- A Device. -/
structure DDevice where
  Live : DClient
  Saved : DClient
def DDevice.e (x : DDevice) : List T := [I x.Live.Id, I x.Live.Friend, I x.Live.Key, I x.Live.Seed, L (eL eU) x.Live.Submitted, I x.Live.Sent, L (eL eU) x.Live.Inbox, I x.Live.Next, I x.Saved.Id, I x.Saved.Friend, I x.Saved.Key, I x.Saved.Seed, L (eL eU) x.Saved.Submitted, I x.Saved.Sent, L (eL eU) x.Saved.Inbox, I x.Saved.Next]
def DDevice.r (x : DDevice) : List RC := [.s (I x.Live.Id), .s (I x.Live.Friend), .s (I x.Live.Key), .s (I x.Live.Seed), .l 1 (x.Live.Submitted.map (eL eU)), .s (I x.Live.Sent), .l 1 (x.Live.Inbox.map (eL eU)), .s (I x.Live.Next), .s (I x.Saved.Id), .s (I x.Saved.Friend), .s (I x.Saved.Key), .s (I x.Saved.Seed), .l 1 (x.Saved.Submitted.map (eL eU)), .s (I x.Saved.Sent), .l 1 (x.Saved.Inbox.map (eL eU)), .s (I x.Saved.Next)]
def DDevice.ok (x : DDevice) : Prop := DClient.ok x.Live ∧ DClient.ok x.Saved
theorem op57 : Opens Try.prog 57 DDevice.e DDevice.ok := (opens_struct Try.underlying57 (opensF_cons (by kernel_rfl) op55 (opensF_one (by kernel_rfl) (by kernel_rfl) op55))).conv (fun p => ⟨p.1, p.2⟩) (fun _ => rfl) (fun _ h => h)
/-- A SignedAnswer. -/
structure DSignedAnswer where
  Server : Int
  Round : Int
  Selection : (List Int)
  Data : (List UInt8)
  MAC : Int
def DSignedAnswer.e (x : DSignedAnswer) : List T := [I x.Server, I x.Round, L eI x.Selection, L eU x.Data, I x.MAC]
def DSignedAnswer.r (x : DSignedAnswer) : List RC := [.s (I x.Server), .s (I x.Round), .l 1 (x.Selection.map eI), .l 1 (x.Data.map eU), .s (I x.MAC)]
def DSignedAnswer.ok (x : DSignedAnswer) : Prop := okI x.Server ∧ okI x.Round ∧ (okL okI) x.Selection ∧ (okL okU) x.Data ∧ okI x.MAC
theorem op128 : Opens Try.prog 128 DSignedAnswer.e DSignedAnswer.ok := (opens_struct Try.underlying128 (opensF_cons (by kernel_rfl) (opens_i64 Try.underlying3) (opensF_cons (by kernel_rfl) (opens_i64 Try.underlying3) (opensF_cons (by kernel_rfl) op37 (opensF_cons (by kernel_rfl) op22 (opensF_one (by kernel_rfl) (by kernel_rfl) (opens_i64 Try.underlying3))))))).conv (fun p => ⟨p.1, p.2.1, p.2.2.1, p.2.2.2.1, p.2.2.2.2⟩) (fun _ => rfl) (fun _ h => h)
theorem op68 : Opens Try.prog 68 (eL DSignedAnswer.e) (okL DSignedAnswer.ok) := opens_slice Try.underlying68 (of_decide_eq_true (by kernel_rfl)) op128
theorem op129 : Opens Try.prog 129 DSignedAnswer.e DSignedAnswer.ok := (opens_struct Try.underlying129 (opensF_cons (by kernel_rfl) (opens_i64 Try.underlying3) (opensF_cons (by kernel_rfl) (opens_i64 Try.underlying3) (opensF_cons (by kernel_rfl) op37 (opensF_cons (by kernel_rfl) op22 (opensF_one (by kernel_rfl) (by kernel_rfl) (opens_i64 Try.underlying3))))))).conv (fun p => ⟨p.1, p.2.1, p.2.2.1, p.2.2.2.1, p.2.2.2.2⟩) (fun _ => rfl) (fun _ h => h)
theorem op73 : Opens Try.prog 73 (eL DSignedAnswer.e) (okL DSignedAnswer.ok) := opens_slice Try.underlying73 (of_decide_eq_true (by kernel_rfl)) op129
/-- A Plain. -/
structure DPlain where
  Kind : Int
  Body : (List UInt8)
def DPlain.e (x : DPlain) : List T := [I x.Kind, L eU x.Body]
def DPlain.r (x : DPlain) : List RC := [.s (I x.Kind), .l 1 (x.Body.map eU)]
def DPlain.ok (x : DPlain) : Prop := okI x.Kind ∧ (okL okU) x.Body
theorem op118 : Opens Try.prog 118 DPlain.e DPlain.ok := (opens_struct Try.underlying118 (opensF_cons (by kernel_rfl) (opens_i64 Try.underlying3) (opensF_one (by kernel_rfl) (by kernel_rfl) op22))).conv (fun p => ⟨p.1, p.2⟩) (fun _ => rfl) (fun _ h => h)
/-- A l1Cur. -/
structure Dl1Cur where
  b : (List UInt8)
  i : Int
  h : Int
def Dl1Cur.e (x : Dl1Cur) : List T := [L eU x.b, I x.i, I x.h]
def Dl1Cur.r (x : Dl1Cur) : List RC := [.l 1 (x.b.map eU), .s (I x.i), .s (I x.h)]
def Dl1Cur.ok (x : Dl1Cur) : Prop := (okL okU) x.b ∧ okI x.i ∧ okI x.h
theorem op138 : Opens Try.prog 138 Dl1Cur.e Dl1Cur.ok := (opens_struct Try.underlying138 (opensF_cons (by kernel_rfl) op22 (opensF_cons (by kernel_rfl) (opens_i64 Try.underlying3) (opensF_one (by kernel_rfl) (by kernel_rfl) (opens_i64 Try.underlying3))))).conv (fun p => ⟨p.1, p.2.1, p.2.2⟩) (fun _ => rfl) (fun _ h => h)
theorem op187 : Opens Try.prog 187 eI okI := (opens_i64 Try.underlying187)
theorem op202 : Opens Try.prog 202 (eL (eL eI)) (okL (okL okI)) := opens_slice Try.underlying202 (of_decide_eq_true (by kernel_rfl)) op37
theorem op221 : Opens Try.prog 221 eU okU := (opens_u8 Try.underlying221)
theorem op222 : Opens Try.prog 222 eU okU := (opens_u8 Try.underlying222)
end Go.Proofs.Ytcoipmjboiegoaa
