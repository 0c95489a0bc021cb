/-
  A structure for each struct type of this seat, its cells, and that a reading of the type opens as these; written by a program of ours off the translation.
  Conditions: none.
-/
import Derived.Test.YtdbgmncapignoaaVmT
import Derived.Test.YtdbgmncapignoaaVmW
import Derived.Test.YtdbgmncapignoaaVmZ
namespace Go.Proofs.Ytdbgmncapignoaa
open Go.Vm Go.RowKit

theorem op2 : Opens Try.prog 2 eI okI := (opens_i64 Try.underlying2)
theorem op3 : Opens Try.prog 3 eI okI := (opens_i64 Try.underlying3)
theorem op4 : Opens Try.prog 4 eB okB := (opens_bool Try.underlying4)
theorem op5 : Opens Try.prog 5 eU okU := (opens_u8 Try.underlying5)
theorem op6 : Opens Try.prog 6 eU okU := (opens_u8 Try.underlying6)
theorem op9 : Opens Try.prog 9 eS okS := (opens_str Try.underlying9)
theorem op10 : Opens Try.prog 10 eS okS := (opens_str Try.underlying10)
theorem op11 : Opens Try.prog 11 eS okS := (opens_str Try.underlying11)
theorem op22 : Opens Try.prog 22 (eL eU) (okL okU) := opens_slice Try.underlying22 (of_decide_eq_true (by kernel_rfl)) (opens_u8 Try.underlying5)
theorem op24 : Opens Try.prog 24 (eL (eL eU)) (okL (okL okU)) := opens_slice Try.underlying24 (of_decide_eq_true (by kernel_rfl)) op22
/-- A Client. -/
structure DClient where
  Id : Int
  Friend : Int
  Key : Int
  Seed : Int
  Submitted : (List (List UInt8))
  Sent : Int
  Inbox : (List (List UInt8))
  Next : Int
def DClient.e (x : DClient) : List T := [I x.Id, I x.Friend, I x.Key, I x.Seed, L (eL eU) x.Submitted, I x.Sent, L (eL eU) x.Inbox, I x.Next]
def DClient.r (x : DClient) : List RC := [.s (I x.Id), .s (I x.Friend), .s (I x.Key), .s (I x.Seed), .l 1 (x.Submitted.map (eL eU)), .s (I x.Sent), .l 1 (x.Inbox.map (eL eU)), .s (I x.Next)]
def DClient.ok (x : DClient) : Prop := okI x.Id ∧ okI x.Friend ∧ okI x.Key ∧ okI x.Seed ∧ (okL (okL okU)) x.Submitted ∧ okI x.Sent ∧ (okL (okL okU)) x.Inbox ∧ okI x.Next
theorem op26 : Opens Try.prog 26 DClient.e DClient.ok := (opens_struct Try.underlying26 (opensF_cons (by kernel_rfl) (opens_i64 Try.underlying3) (opensF_cons (by kernel_rfl) (opens_i64 Try.underlying3) (opensF_cons (by kernel_rfl) (opens_i64 Try.underlying3) (opensF_cons (by kernel_rfl) (opens_i64 Try.underlying3) (opensF_cons (by kernel_rfl) op24 (opensF_cons (by kernel_rfl) (opens_i64 Try.underlying3) (opensF_cons (by kernel_rfl) op24 (opensF_one (by kernel_rfl) (by kernel_rfl) (opens_i64 Try.underlying3)))))))))).conv (fun p => ⟨p.1, p.2.1, p.2.2.1, p.2.2.2.1, p.2.2.2.2.1, p.2.2.2.2.2.1, p.2.2.2.2.2.2.1, p.2.2.2.2.2.2.2⟩) (fun _ => rfl) (fun _ h => h)
/-- A Database. -/
structure DDatabase where
  Rows : (List (List UInt8))
def DDatabase.e (x : DDatabase) : List T := [L (eL eU) x.Rows]
def DDatabase.r (x : DDatabase) : List RC := [.l 1 (x.Rows.map (eL eU))]
def DDatabase.ok (x : DDatabase) : Prop := (okL (okL okU)) x.Rows
theorem op48 : Opens Try.prog 48 DDatabase.e DDatabase.ok := (opens_struct Try.underlying48 (opensF_one (by kernel_rfl) (by kernel_rfl) op24)).conv (fun p => ⟨p⟩) (fun _ => rfl) (fun _ h => h)
/-- A ReceivedShare. -/
structure DReceivedShare where
  Client : Int
  Share : DDatabase
def DReceivedShare.e (x : DReceivedShare) : List T := [I x.Client, L (eL eU) x.Share.Rows]
def DReceivedShare.r (x : DReceivedShare) : List RC := [.s (I x.Client), .l 1 (x.Share.Rows.map (eL eU))]
def DReceivedShare.ok (x : DReceivedShare) : Prop := okI x.Client ∧ DDatabase.ok x.Share
theorem op50 : Opens Try.prog 50 DReceivedShare.e DReceivedShare.ok := (opens_struct Try.underlying50 (opensF_cons (by kernel_rfl) (opens_i64 Try.underlying3) (opensF_one (by kernel_rfl) (by kernel_rfl) op48))).conv (fun p => ⟨p.1, p.2⟩) (fun _ => rfl) (fun _ h => h)
theorem op42 : Opens Try.prog 42 (eL DReceivedShare.e) (okL DReceivedShare.ok) := opens_slice Try.underlying42 (of_decide_eq_true (by kernel_rfl)) op50
/-- A Server. -/
structure DServer where
  Id : Int
  Rows : Int
  Round : Int
  Received : (List DReceivedShare)
  Behavior : Int
def DServer.e (x : DServer) : List T := [I x.Id, I x.Rows, I x.Round, L DReceivedShare.e x.Received, I x.Behavior]
def DServer.r (x : DServer) : List RC := [.s (I x.Id), .s (I x.Rows), .s (I x.Round), .l 2 (x.Received.map DReceivedShare.e), .s (I x.Behavior)]
def DServer.ok (x : DServer) : Prop := okI x.Id ∧ okI x.Rows ∧ okI x.Round ∧ (okL DReceivedShare.ok) x.Received ∧ okI x.Behavior
theorem op44 : Opens Try.prog 44 DServer.e DServer.ok := (opens_struct Try.underlying44 (opensF_cons (by kernel_rfl) (opens_i64 Try.underlying3) (opensF_cons (by kernel_rfl) (opens_i64 Try.underlying3) (opensF_cons (by kernel_rfl) (opens_i64 Try.underlying3) (opensF_cons (by kernel_rfl) op42 (opensF_one (by kernel_rfl) (by kernel_rfl) (opens_i64 Try.underlying3))))))).conv (fun p => ⟨p.1, p.2.1, p.2.2.1, p.2.2.2.1, p.2.2.2.2⟩) (fun _ => rfl) (fun _ h => h)
theorem op37 : Opens Try.prog 37 (eL DServer.e) (okL DServer.ok) := opens_slice Try.underlying37 (of_decide_eq_true (by kernel_rfl)) op44
theorem op38 : Opens Try.prog 38 (eL DDatabase.e) (okL DDatabase.ok) := opens_slice Try.underlying38 (of_decide_eq_true (by kernel_rfl)) op48
/-- A Receipt. -/
structure DReceipt where
  Server : Int
  Client : Int
  Round : Int
  Digest : Int
  MAC : Int
def DReceipt.e (x : DReceipt) : List T := [I x.Server, I x.Client, I x.Round, I x.Digest, I x.MAC]
def DReceipt.r (x : DReceipt) : List RC := [.s (I x.Server), .s (I x.Client), .s (I x.Round), .s (I x.Digest), .s (I x.MAC)]
def DReceipt.ok (x : DReceipt) : Prop := okI x.Server ∧ okI x.Client ∧ okI x.Round ∧ okI x.Digest ∧ okI x.MAC
theorem op93 : Opens Try.prog 93 DReceipt.e DReceipt.ok := (opens_struct Try.underlying93 (opensF_cons (by kernel_rfl) (opens_i64 Try.underlying3) (opensF_cons (by kernel_rfl) (opens_i64 Try.underlying3) (opensF_cons (by kernel_rfl) (opens_i64 Try.underlying3) (opensF_cons (by kernel_rfl) (opens_i64 Try.underlying3) (opensF_one (by kernel_rfl) (by kernel_rfl) (opens_i64 Try.underlying3))))))).conv (fun p => ⟨p.1, p.2.1, p.2.2.1, p.2.2.2.1, p.2.2.2.2⟩) (fun _ => rfl) (fun _ h => h)
theorem op39 : Opens Try.prog 39 (eL DReceipt.e) (okL DReceipt.ok) := opens_slice Try.underlying39 (of_decide_eq_true (by kernel_rfl)) op93
theorem op53 : Opens Try.prog 53 (eL eI) (okL okI) := opens_slice Try.underlying53 (of_decide_eq_true (by kernel_rfl)) (opens_i64 Try.underlying3)
/-- A SignedAnswer. -/
structure DSignedAnswer where
  Server : Int
  Round : Int
  Selection : (List Int)
  Data : (List UInt8)
  MAC : Int
def DSignedAnswer.e (x : DSignedAnswer) : List T := [I x.Server, I x.Round, L eI x.Selection, L eU x.Data, I x.MAC]
def DSignedAnswer.r (x : DSignedAnswer) : List RC := [.s (I x.Server), .s (I x.Round), .l 1 (x.Selection.map eI), .l 1 (x.Data.map eU), .s (I x.MAC)]
def DSignedAnswer.ok (x : DSignedAnswer) : Prop := okI x.Server ∧ okI x.Round ∧ (okL okI) x.Selection ∧ (okL okU) x.Data ∧ okI x.MAC
theorem op64 : Opens Try.prog 64 DSignedAnswer.e DSignedAnswer.ok := (opens_struct Try.underlying64 (opensF_cons (by kernel_rfl) (opens_i64 Try.underlying3) (opensF_cons (by kernel_rfl) (opens_i64 Try.underlying3) (opensF_cons (by kernel_rfl) op53 (opensF_cons (by kernel_rfl) op22 (opensF_one (by kernel_rfl) (by kernel_rfl) (opens_i64 Try.underlying3))))))).conv (fun p => ⟨p.1, p.2.1, p.2.2.1, p.2.2.2.1, p.2.2.2.2⟩) (fun _ => rfl) (fun _ h => h)
theorem op58 : Opens Try.prog 58 (eL DSignedAnswer.e) (okL DSignedAnswer.ok) := opens_slice Try.underlying58 (of_decide_eq_true (by kernel_rfl)) op64
/-- A Plain. -/
structure DPlain where
  Kind : Int
  Body : (List UInt8)
def DPlain.e (x : DPlain) : List T := [I x.Kind, L eU x.Body]
def DPlain.r (x : DPlain) : List RC := [.s (I x.Kind), .l 1 (x.Body.map eU)]
def DPlain.ok (x : DPlain) : Prop := okI x.Kind ∧ (okL okU) x.Body
theorem op78 : Opens Try.prog 78 DPlain.e DPlain.ok := (opens_struct Try.underlying78 (opensF_cons (by kernel_rfl) (opens_i64 Try.underlying3) (opensF_one (by kernel_rfl) (by kernel_rfl) op22))).conv (fun p => ⟨p.1, p.2⟩) (fun _ => rfl) (fun _ h => h)
theorem op100 : Opens Try.prog 100 (eL eS) (okL okS) := opens_slice Try.underlying100 (of_decide_eq_true (by kernel_rfl)) (opens_str Try.underlying9)
/-- A l1Cur. -/
structure Dl1Cur where
  b : (List UInt8)
  i : Int
  h : Int
def Dl1Cur.e (x : Dl1Cur) : List T := [L eU x.b, I x.i, I x.h]
def Dl1Cur.r (x : Dl1Cur) : List RC := [.l 1 (x.b.map eU), .s (I x.i), .s (I x.h)]
def Dl1Cur.ok (x : Dl1Cur) : Prop := (okL okU) x.b ∧ okI x.i ∧ okI x.h
theorem op111 : Opens Try.prog 111 Dl1Cur.e Dl1Cur.ok := (opens_struct Try.underlying111 (opensF_cons (by kernel_rfl) op22 (opensF_cons (by kernel_rfl) (opens_i64 Try.underlying3) (opensF_one (by kernel_rfl) (by kernel_rfl) (opens_i64 Try.underlying3))))).conv (fun p => ⟨p.1, p.2.1, p.2.2⟩) (fun _ => rfl) (fun _ h => h)
theorem op146 : Opens Try.prog 146 (eL (eL eI)) (okL (okL okI)) := opens_slice Try.underlying146 (of_decide_eq_true (by kernel_rfl)) op53
theorem op154 : Opens Try.prog 154 eI okI := (opens_i64 Try.underlying154)
theorem op184 : Opens Try.prog 184 eU okU := (opens_u8 Try.underlying184)
theorem op185 : Opens Try.prog 185 eU okU := (opens_u8 Try.underlying185)
end Go.Proofs.Ytdbgmncapignoaa
