/-
  A structure for each struct type of this seat, its cells, and that a reading of the type opens as these; written by a program of ours off the translation.
  Conditions: none.
-/
import Derived.Test.YtkjheelgilffiaaVmT
import Derived.Test.YtkjheelgilffiaaVmW
import Derived.Test.YtkjheelgilffiaaVmZ
namespace Go.Proofs.Ytkjheelgilffiaa
open Go.Vm Go.RowKit

theorem op2 : Opens Try.prog 2 eI okI := (opens_i64 Try.underlying2)
theorem op3 : Opens Try.prog 3 eI okI := (opens_i64 Try.underlying3)
theorem op4 : Opens Try.prog 4 eB okB := (opens_bool Try.underlying4)
theorem op5 : Opens Try.prog 5 eU okU := (opens_u8 Try.underlying5)
theorem op6 : Opens Try.prog 6 eU okU := (opens_u8 Try.underlying6)
theorem op9 : Opens Try.prog 9 eS okS := (opens_str Try.underlying9)
theorem op10 : Opens Try.prog 10 eS okS := (opens_str Try.underlying10)
theorem op11 : Opens Try.prog 11 eS okS := (opens_str Try.underlying11)
/-- A Transfer. -/
structure DTransfer where
  From : Int
  To : Int
  Bytes : Int
def DTransfer.e (x : DTransfer) : List T := [I x.From, I x.To, I x.Bytes]
def DTransfer.r (x : DTransfer) : List RC := [.s (I x.From), .s (I x.To), .s (I x.Bytes)]
def DTransfer.ok (x : DTransfer) : Prop := okI x.From ∧ okI x.To ∧ okI x.Bytes
theorem op64 : Opens Try.prog 64 DTransfer.e DTransfer.ok := (opens_struct Try.underlying64 (opensF_cons (by kernel_rfl) (opens_i64 Try.underlying3) (opensF_cons (by kernel_rfl) (opens_i64 Try.underlying3) (opensF_one (by kernel_rfl) (by kernel_rfl) (opens_i64 Try.underlying3))))).conv (fun p => ⟨p.1, p.2.1, p.2.2⟩) (fun _ => rfl) (fun _ h => h)
theorem op24 : Opens Try.prog 24 (eL DTransfer.e) (okL DTransfer.ok) := opens_slice Try.underlying24 (of_decide_eq_true (by kernel_rfl)) op64
theorem op62 : Opens Try.prog 62 DTransfer.e DTransfer.ok := (opens_struct Try.underlying62 (opensF_cons (by kernel_rfl) (opens_i64 Try.underlying3) (opensF_cons (by kernel_rfl) (opens_i64 Try.underlying3) (opensF_one (by kernel_rfl) (by kernel_rfl) (opens_i64 Try.underlying3))))).conv (fun p => ⟨p.1, p.2.1, p.2.2⟩) (fun _ => rfl) (fun _ h => h)
theorem op27 : Opens Try.prog 27 (eL DTransfer.e) (okL DTransfer.ok) := opens_slice Try.underlying27 (of_decide_eq_true (by kernel_rfl)) op62
theorem op36 : Opens Try.prog 36 (eL eU) (okL okU) := opens_slice Try.underlying36 (of_decide_eq_true (by kernel_rfl)) (opens_u8 Try.underlying5)
theorem op43 : Opens Try.prog 43 (eL (eL eU)) (okL (okL okU)) := opens_slice Try.underlying43 (of_decide_eq_true (by kernel_rfl)) op36
/-- A Client. -/
structure DClient where
  Id : Int
  Friend : Int
  Key : Int
  Seed : Int
  Submitted : (List (List Int))
  Sent : Int
  Inbox : (List (List Int))
  Next : Int
def DClient.e (x : DClient) : List T := [I x.Id, I x.Friend, I x.Key, I x.Seed, L (eL eU) x.Submitted, I x.Sent, L (eL eU) x.Inbox, I x.Next]
def DClient.r (x : DClient) : List RC := [.s (I x.Id), .s (I x.Friend), .s (I x.Key), .s (I x.Seed), .l 1 (x.Submitted.map (eL eU)), .s (I x.Sent), .l 1 (x.Inbox.map (eL eU)), .s (I x.Next)]
def DClient.ok (x : DClient) : Prop := okI x.Id ∧ okI x.Friend ∧ okI x.Key ∧ okI x.Seed ∧ (okL (okL okU)) x.Submitted ∧ okI x.Sent ∧ (okL (okL okU)) x.Inbox ∧ okI x.Next
theorem op45 : Opens Try.prog 45 DClient.e DClient.ok := (opens_struct Try.underlying45 (opensF_cons (by kernel_rfl) (opens_i64 Try.underlying3) (opensF_cons (by kernel_rfl) (opens_i64 Try.underlying3) (opensF_cons (by kernel_rfl) (opens_i64 Try.underlying3) (opensF_cons (by kernel_rfl) (opens_i64 Try.underlying3) (opensF_cons (by kernel_rfl) op43 (opensF_cons (by kernel_rfl) (opens_i64 Try.underlying3) (opensF_cons (by kernel_rfl) op43 (opensF_one (by kernel_rfl) (by kernel_rfl) (opens_i64 Try.underlying3)))))))))).conv (fun p => ⟨p.1, p.2.1, p.2.2.1, p.2.2.2.1, p.2.2.2.2.1, p.2.2.2.2.2.1, p.2.2.2.2.2.2.1, p.2.2.2.2.2.2.2⟩) (fun _ => rfl) (fun _ h => h)
theorem op48 : Opens Try.prog 48 DClient.e DClient.ok := (opens_struct Try.underlying48 (opensF_cons (by kernel_rfl) (opens_i64 Try.underlying3) (opensF_cons (by kernel_rfl) (opens_i64 Try.underlying3) (opensF_cons (by kernel_rfl) (opens_i64 Try.underlying3) (opensF_cons (by kernel_rfl) (opens_i64 Try.underlying3) (opensF_cons (by kernel_rfl) op43 (opensF_cons (by kernel_rfl) (opens_i64 Try.underlying3) (opensF_cons (by kernel_rfl) op43 (opensF_one (by kernel_rfl) (by kernel_rfl) (opens_i64 Try.underlying3)))))))))).conv (fun p => ⟨p.1, p.2.1, p.2.2.1, p.2.2.2.1, p.2.2.2.2.1, p.2.2.2.2.2.1, p.2.2.2.2.2.2.1, p.2.2.2.2.2.2.2⟩) (fun _ => rfl) (fun _ h => h)
/-- A Database. -/
structure DDatabase where
  Rows : (List (List Int))
def DDatabase.e (x : DDatabase) : List T := [L (eL eU) x.Rows]
def DDatabase.r (x : DDatabase) : List RC := [.l 1 (x.Rows.map (eL eU))]
def DDatabase.ok (x : DDatabase) : Prop := (okL (okL okU)) x.Rows
theorem op75 : Opens Try.prog 75 DDatabase.e DDatabase.ok := (opens_struct Try.underlying75 (opensF_one (by kernel_rfl) (by kernel_rfl) op43)).conv (fun p => ⟨p⟩) (fun _ => rfl) (fun _ h => h)
/-- A ArchivedRound. -/
structure DArchivedRound where
  Round : Int
  Database : DDatabase
def DArchivedRound.e (x : DArchivedRound) : List T := [I x.Round, L (eL eU) x.Database.Rows]
def DArchivedRound.r (x : DArchivedRound) : List RC := [.s (I x.Round), .l 1 (x.Database.Rows.map (eL eU))]
def DArchivedRound.ok (x : DArchivedRound) : Prop := okI x.Round ∧ DDatabase.ok x.Database
theorem op77 : Opens Try.prog 77 DArchivedRound.e DArchivedRound.ok := (opens_struct Try.underlying77 (opensF_cons (by kernel_rfl) (opens_i64 Try.underlying3) (opensF_one (by kernel_rfl) (by kernel_rfl) op75))).conv (fun p => ⟨p.1, p.2⟩) (fun _ => rfl) (fun _ h => h)
theorem op54 : Opens Try.prog 54 (eL DArchivedRound.e) (okL DArchivedRound.ok) := opens_slice Try.underlying54 (of_decide_eq_true (by kernel_rfl)) op77
/-- A Archive. -/
structure DArchive where
  Rows : Int
  Rounds : (List DArchivedRound)
def DArchive.e (x : DArchive) : List T := [I x.Rows, L DArchivedRound.e x.Rounds]
def DArchive.r (x : DArchive) : List RC := [.s (I x.Rows), .l 2 (x.Rounds.map DArchivedRound.e)]
def DArchive.ok (x : DArchive) : Prop := okI x.Rows ∧ (okL DArchivedRound.ok) x.Rounds
theorem op56 : Opens Try.prog 56 DArchive.e DArchive.ok := (opens_struct Try.underlying56 (opensF_cons (by kernel_rfl) (opens_i64 Try.underlying3) (opensF_one (by kernel_rfl) (by kernel_rfl) op54))).conv (fun p => ⟨p.1, p.2⟩) (fun _ => rfl) (fun _ h => h)
theorem op87 : Opens Try.prog 87 eU okU := (opens_u8 Try.underlying87)
theorem op88 : Opens Try.prog 88 eU okU := (opens_u8 Try.underlying88)
end Go.Proofs.Ytkjheelgilffiaa
