/-
  A structure for each struct type of this seat, its cells, and that a reading of the type opens as these; written by a program of ours off the translation.
  Conditions: none.
-/
import Derived.Test.YtpelgajmebgbaaaVmT
import Derived.Test.YtpelgajmebgbaaaVmW
import Derived.Test.YtpelgajmebgbaaaVmZ
namespace Go.Proofs.Ytpelgajmebgbaaa
open Go.Vm Go.RowKit

theorem op2 : Opens Try.prog 2 eI okI := (opens_i64 Try.underlying2)
theorem op3 : Opens Try.prog 3 eI okI := (opens_i64 Try.underlying3)
theorem op4 : Opens Try.prog 4 eB okB := (opens_bool Try.underlying4)
theorem op5 : Opens Try.prog 5 eU okU := (opens_u8 Try.underlying5)
theorem op6 : Opens Try.prog 6 eU okU := (opens_u8 Try.underlying6)
theorem op9 : Opens Try.prog 9 eS okS := (opens_str Try.underlying9)
theorem op10 : Opens Try.prog 10 eS okS := (opens_str Try.underlying10)
theorem op11 : Opens Try.prog 11 eS okS := (opens_str Try.underlying11)
theorem op22 : Opens Try.prog 22 (eL eU) (okL okU) := opens_slice Try.underlying22 (of_decide_eq_true (by kernel_rfl)) (opens_u8 Try.underlying5)
theorem op25 : Opens Try.prog 25 (eL (eL eU)) (okL (okL okU)) := opens_slice Try.underlying25 (of_decide_eq_true (by kernel_rfl)) op22
/-- A Client. -/
structure DClient where
  Id : Int
  Friend : Int
  Key : Int
  Seed : Int
  Submitted : (List (List UInt8))
  Sent : Int
  Inbox : (List (List UInt8))
  Next : Int
def DClient.e (x : DClient) : List T := [I x.Id, I x.Friend, I x.Key, I x.Seed, L (eL eU) x.Submitted, I x.Sent, L (eL eU) x.Inbox, I x.Next]
def DClient.r (x : DClient) : List RC := [.s (I x.Id), .s (I x.Friend), .s (I x.Key), .s (I x.Seed), .l 1 (x.Submitted.map (eL eU)), .s (I x.Sent), .l 1 (x.Inbox.map (eL eU)), .s (I x.Next)]
def DClient.ok (x : DClient) : Prop := okI x.Id ∧ okI x.Friend ∧ okI x.Key ∧ okI x.Seed ∧ (okL (okL okU)) x.Submitted ∧ okI x.Sent ∧ (okL (okL okU)) x.Inbox ∧ okI x.Next
theorem op27 : Opens Try.prog 27 DClient.e DClient.ok := (opens_struct Try.underlying27 (opensF_cons (by kernel_rfl) (opens_i64 Try.underlying3) (opensF_cons (by kernel_rfl) (opens_i64 Try.underlying3) (opensF_cons (by kernel_rfl) (opens_i64 Try.underlying3) (opensF_cons (by kernel_rfl) (opens_i64 Try.underlying3) (opensF_cons (by kernel_rfl) op25 (opensF_cons (by kernel_rfl) (opens_i64 Try.underlying3) (opensF_cons (by kernel_rfl) op25 (opensF_one (by kernel_rfl) (by kernel_rfl) (opens_i64 Try.underlying3)))))))))).conv (fun p => ⟨p.1, p.2.1, p.2.2.1, p.2.2.2.1, p.2.2.2.2.1, p.2.2.2.2.2.1, p.2.2.2.2.2.2.1, p.2.2.2.2.2.2.2⟩) (fun _ => rfl) (fun _ h => h)
theorem op48 : Opens Try.prog 48 (eL eI) (okL okI) := opens_slice Try.underlying48 (of_decide_eq_true (by kernel_rfl)) (opens_i64 Try.underlying3)
/-- A Plain. -/
structure DPlain where
  Kind : Int
  Body : (List UInt8)
def DPlain.e (x : DPlain) : List T := [I x.Kind, L eU x.Body]
def DPlain.r (x : DPlain) : List RC := [.s (I x.Kind), .l 1 (x.Body.map eU)]
def DPlain.ok (x : DPlain) : Prop := okI x.Kind ∧ (okL okU) x.Body
theorem op50 : Opens Try.prog 50 DPlain.e DPlain.ok := (opens_struct Try.underlying50 (opensF_cons (by kernel_rfl) (opens_i64 Try.underlying3) (opensF_one (by kernel_rfl) (by kernel_rfl) op22))).conv (fun p => ⟨p.1, p.2⟩) (fun _ => rfl) (fun _ h => h)
theorem op66 : Opens Try.prog 66 (eL (eL eI)) (okL (okL okI)) := opens_slice Try.underlying66 (of_decide_eq_true (by kernel_rfl)) op48
theorem op78 : Opens Try.prog 78 eU okU := (opens_u8 Try.underlying78)
theorem op79 : Opens Try.prog 79 eU okU := (opens_u8 Try.underlying79)
end Go.Proofs.Ytpelgajmebgbaaa
