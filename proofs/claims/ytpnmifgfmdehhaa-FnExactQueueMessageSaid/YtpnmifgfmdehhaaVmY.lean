/-
  A structure for each struct type of this seat, its cells, and that a reading of the type opens as these; written by a program of ours off the translation.
  Conditions: none.
-/
import Derived.Test.YtpnmifgfmdehhaaVmT
import Derived.Test.YtpnmifgfmdehhaaVmW
import Derived.Test.YtpnmifgfmdehhaaVmZ
namespace Go.Proofs.Ytpnmifgfmdehhaa
open Go.Vm Go.RowKit

theorem op2 : Opens Try.prog 2 eI okI := (opens_i64 Try.underlying2)
theorem op3 : Opens Try.prog 3 eI okI := (opens_i64 Try.underlying3)
theorem op4 : Opens Try.prog 4 eB okB := (opens_bool Try.underlying4)
theorem op5 : Opens Try.prog 5 eU okU := (opens_u8 Try.underlying5)
theorem op6 : Opens Try.prog 6 eU okU := (opens_u8 Try.underlying6)
theorem op9 : Opens Try.prog 9 eS okS := (opens_str Try.underlying9)
theorem op10 : Opens Try.prog 10 eS okS := (opens_str Try.underlying10)
theorem op11 : Opens Try.prog 11 eS okS := (opens_str Try.underlying11)
theorem op67 : Opens Try.prog 67 (eL eU) (okL okU) := opens_slice Try.underlying67 (of_decide_eq_true (by kernel_rfl)) (opens_u8 Try.underlying5)
theorem op22 : Opens Try.prog 22 (eL (eL eU)) (okL (okL okU)) := opens_slice Try.underlying22 (of_decide_eq_true (by kernel_rfl)) op67
/-- A Client. -/
structure DClient where
  Id : Int
  Friend : Int
  Key : Int
  Seed : Int
  Submitted : (List (List UInt8))
  Sent : Int
  Inbox : (List (List UInt8))
  Next : Int
def DClient.e (x : DClient) : List T := [I x.Id, I x.Friend, I x.Key, I x.Seed, L (eL eU) x.Submitted, I x.Sent, L (eL eU) x.Inbox, I x.Next]
def DClient.r (x : DClient) : List RC := [.s (I x.Id), .s (I x.Friend), .s (I x.Key), .s (I x.Seed), .l 1 (x.Submitted.map (eL eU)), .s (I x.Sent), .l 1 (x.Inbox.map (eL eU)), .s (I x.Next)]
def DClient.ok (x : DClient) : Prop := okI x.Id ∧ okI x.Friend ∧ okI x.Key ∧ okI x.Seed ∧ (okL (okL okU)) x.Submitted ∧ okI x.Sent ∧ (okL (okL okU)) x.Inbox ∧ okI x.Next
theorem op24 : Opens Try.prog 24 DClient.e DClient.ok := (opens_struct Try.underlying24 (opensF_cons (by kernel_rfl) (opens_i64 Try.underlying3) (opensF_cons (by kernel_rfl) (opens_i64 Try.underlying3) (opensF_cons (by kernel_rfl) (opens_i64 Try.underlying3) (opensF_cons (by kernel_rfl) (opens_i64 Try.underlying3) (opensF_cons (by kernel_rfl) op22 (opensF_cons (by kernel_rfl) (opens_i64 Try.underlying3) (opensF_cons (by kernel_rfl) op22 (opensF_one (by kernel_rfl) (by kernel_rfl) (opens_i64 Try.underlying3)))))))))).conv (fun p => ⟨p.1, p.2.1, p.2.2.1, p.2.2.2.1, p.2.2.2.2.1, p.2.2.2.2.2.1, p.2.2.2.2.2.2.1, p.2.2.2.2.2.2.2⟩) (fun _ => rfl) (fun _ h => h)
theorem op27 : Opens Try.prog 27 DClient.e DClient.ok := (opens_struct Try.underlying27 (opensF_cons (by kernel_rfl) (opens_i64 Try.underlying3) (opensF_cons (by kernel_rfl) (opens_i64 Try.underlying3) (opensF_cons (by kernel_rfl) (opens_i64 Try.underlying3) (opensF_cons (by kernel_rfl) (opens_i64 Try.underlying3) (opensF_cons (by kernel_rfl) op22 (opensF_cons (by kernel_rfl) (opens_i64 Try.underlying3) (opensF_cons (by kernel_rfl) op22 (opensF_one (by kernel_rfl) (by kernel_rfl) (opens_i64 Try.underlying3)))))))))).conv (fun p => ⟨p.1, p.2.1, p.2.2.1, p.2.2.2.1, p.2.2.2.2.1, p.2.2.2.2.2.1, p.2.2.2.2.2.2.1, p.2.2.2.2.2.2.2⟩) (fun _ => rfl) (fun _ h => h)
/-- A Database. -/
structure DDatabase where
  Rows : (List (List UInt8))
def DDatabase.e (x : DDatabase) : List T := [L (eL eU) x.Rows]
def DDatabase.r (x : DDatabase) : List RC := [.l 1 (x.Rows.map (eL eU))]
def DDatabase.ok (x : DDatabase) : Prop := (okL (okL okU)) x.Rows
theorem op100 : Opens Try.prog 100 DDatabase.e DDatabase.ok := (opens_struct Try.underlying100 (opensF_one (by kernel_rfl) (by kernel_rfl) op22)).conv (fun p => ⟨p⟩) (fun _ => rfl) (fun _ h => h)
/-- A ArchivedRound. -/
structure DArchivedRound where
  Round : Int
  Database : DDatabase
def DArchivedRound.e (x : DArchivedRound) : List T := [I x.Round, L (eL eU) x.Database.Rows]
def DArchivedRound.r (x : DArchivedRound) : List RC := [.s (I x.Round), .l 1 (x.Database.Rows.map (eL eU))]
def DArchivedRound.ok (x : DArchivedRound) : Prop := okI x.Round ∧ DDatabase.ok x.Database
theorem op102 : Opens Try.prog 102 DArchivedRound.e DArchivedRound.ok := (opens_struct Try.underlying102 (opensF_cons (by kernel_rfl) (opens_i64 Try.underlying3) (opensF_one (by kernel_rfl) (by kernel_rfl) op100))).conv (fun p => ⟨p.1, p.2⟩) (fun _ => rfl) (fun _ h => h)
theorem op32 : Opens Try.prog 32 (eL DArchivedRound.e) (okL DArchivedRound.ok) := opens_slice Try.underlying32 (of_decide_eq_true (by kernel_rfl)) op102
/-- A Archive. -/
structure DArchive where
  Rows : Int
  Rounds : (List DArchivedRound)
def DArchive.e (x : DArchive) : List T := [I x.Rows, L DArchivedRound.e x.Rounds]
def DArchive.r (x : DArchive) : List RC := [.s (I x.Rows), .l 2 (x.Rounds.map DArchivedRound.e)]
def DArchive.ok (x : DArchive) : Prop := okI x.Rows ∧ (okL DArchivedRound.ok) x.Rounds
theorem op34 : Opens Try.prog 34 DArchive.e DArchive.ok := (opens_struct Try.underlying34 (opensF_cons (by kernel_rfl) (opens_i64 Try.underlying3) (opensF_one (by kernel_rfl) (by kernel_rfl) op32))).conv (fun p => ⟨p.1, p.2⟩) (fun _ => rfl) (fun _ h => h)
theorem op84 : Opens Try.prog 84 DDatabase.e DDatabase.ok := (opens_struct Try.underlying84 (opensF_one (by kernel_rfl) (by kernel_rfl) op22)).conv (fun p => ⟨p⟩) (fun _ => rfl) (fun _ h => h)
theorem op86 : Opens Try.prog 86 DArchivedRound.e DArchivedRound.ok := (opens_struct Try.underlying86 (opensF_cons (by kernel_rfl) (opens_i64 Try.underlying3) (opensF_one (by kernel_rfl) (by kernel_rfl) op84))).conv (fun p => ⟨p.1, p.2⟩) (fun _ => rfl) (fun _ h => h)
theorem op37 : Opens Try.prog 37 (eL DArchivedRound.e) (okL DArchivedRound.ok) := opens_slice Try.underlying37 (of_decide_eq_true (by kernel_rfl)) op86
theorem op39 : Opens Try.prog 39 DArchive.e DArchive.ok := (opens_struct Try.underlying39 (opensF_cons (by kernel_rfl) (opens_i64 Try.underlying3) (opensF_one (by kernel_rfl) (by kernel_rfl) op37))).conv (fun p => ⟨p.1, p.2⟩) (fun _ => rfl) (fun _ h => h)
/-- A Device. -/
structure DDevice where
  Live : DClient
  Saved : DClient
def DDevice.e (x : DDevice) : List T := [I x.Live.Id, I x.Live.Friend, I x.Live.Key, I x.Live.Seed, L (eL eU) x.Live.Submitted, I x.Live.Sent, L (eL eU) x.Live.Inbox, I x.Live.Next, I x.Saved.Id, I x.Saved.Friend, I x.Saved.Key, I x.Saved.Seed, L (eL eU) x.Saved.Submitted, I x.Saved.Sent, L (eL eU) x.Saved.Inbox, I x.Saved.Next]
def DDevice.r (x : DDevice) : List RC := [.s (I x.Live.Id), .s (I x.Live.Friend), .s (I x.Live.Key), .s (I x.Live.Seed), .l 1 (x.Live.Submitted.map (eL eU)), .s (I x.Live.Sent), .l 1 (x.Live.Inbox.map (eL eU)), .s (I x.Live.Next), .s (I x.Saved.Id), .s (I x.Saved.Friend), .s (I x.Saved.Key), .s (I x.Saved.Seed), .l 1 (x.Saved.Submitted.map (eL eU)), .s (I x.Saved.Sent), .l 1 (x.Saved.Inbox.map (eL eU)), .s (I x.Saved.Next)]
def DDevice.ok (x : DDevice) : Prop := DClient.ok x.Live ∧ DClient.ok x.Saved
theorem op44 : Opens Try.prog 44 DDevice.e DDevice.ok := (opens_struct Try.underlying44 (opensF_cons (by kernel_rfl) op24 (opensF_one (by kernel_rfl) (by kernel_rfl) op24))).conv (fun p => ⟨p.1, p.2⟩) (fun _ => rfl) (fun _ h => h)
theorem op48 : Opens Try.prog 48 DDevice.e DDevice.ok := (opens_struct Try.underlying48 (opensF_cons (by kernel_rfl) op27 (opensF_one (by kernel_rfl) (by kernel_rfl) op27))).conv (fun p => ⟨p.1, p.2⟩) (fun _ => rfl) (fun _ h => h)
theorem op59 : Opens Try.prog 59 (eL eI) (okL okI) := opens_slice Try.underlying59 (of_decide_eq_true (by kernel_rfl)) (opens_i64 Try.underlying3)
theorem op110 : Opens Try.prog 110 (eL (eL eI)) (okL (okL okI)) := opens_slice Try.underlying110 (of_decide_eq_true (by kernel_rfl)) op59
theorem op120 : Opens Try.prog 120 eU okU := (opens_u8 Try.underlying120)
theorem op121 : Opens Try.prog 121 eU okU := (opens_u8 Try.underlying121)
end Go.Proofs.Ytpnmifgfmdehhaa
