/-
  A structure for each struct type of this seat, its cells, and that a reading of the type opens as these; written by a program of ours off the translation.
  Conditions: none.
-/
import Derived.Test.YtpipfobdfcnghaaVmT
import Derived.Test.YtpipfobdfcnghaaVmW
import Derived.Test.YtpipfobdfcnghaaVmZ
namespace Go.Proofs.Ytpipfobdfcnghaa
open Go.Vm Go.RowKit

theorem op2 : Opens Try.prog 2 eI okI := (opens_i64 Try.underlying2)
theorem op3 : Opens Try.prog 3 eI okI := (opens_i64 Try.underlying3)
theorem op4 : Opens Try.prog 4 eB okB := (opens_bool Try.underlying4)
theorem op5 : Opens Try.prog 5 eU okU := (opens_u8 Try.underlying5)
theorem op6 : Opens Try.prog 6 eU okU := (opens_u8 Try.underlying6)
theorem op9 : Opens Try.prog 9 eS okS := (opens_str Try.underlying9)
theorem op10 : Opens Try.prog 10 eS okS := (opens_str Try.underlying10)
theorem op11 : Opens Try.prog 11 eS okS := (opens_str Try.underlying11)
theorem op22 : Opens Try.prog 22 (eL eU) (okL okU) := opens_slice Try.underlying22 (of_decide_eq_true (by kernel_rfl)) (opens_u8 Try.underlying5)
theorem op34 : Opens Try.prog 34 (eL (eL eU)) (okL (okL okU)) := opens_slice Try.underlying34 (of_decide_eq_true (by kernel_rfl)) op22
/-- A Database. -/
structure DDatabase where
  Rows : (List (List UInt8))
def DDatabase.e (x : DDatabase) : List T := [L (eL eU) x.Rows]
def DDatabase.r (x : DDatabase) : List RC := [.l 1 (x.Rows.map (eL eU))]
def DDatabase.ok (x : DDatabase) : Prop := (okL (okL okU)) x.Rows
theorem op36 : Opens Try.prog 36 DDatabase.e DDatabase.ok := (opens_struct Try.underlying36 (opensF_one (by kernel_rfl) (by kernel_rfl) op34)).conv (fun p => ⟨p⟩) (fun _ => rfl) (fun _ h => h)
/-- A ReceivedShare. -/
structure DReceivedShare where
  Client : Int
  Share : DDatabase
def DReceivedShare.e (x : DReceivedShare) : List T := [I x.Client, L (eL eU) x.Share.Rows]
def DReceivedShare.r (x : DReceivedShare) : List RC := [.s (I x.Client), .l 1 (x.Share.Rows.map (eL eU))]
def DReceivedShare.ok (x : DReceivedShare) : Prop := okI x.Client ∧ DDatabase.ok x.Share
theorem op38 : Opens Try.prog 38 DReceivedShare.e DReceivedShare.ok := (opens_struct Try.underlying38 (opensF_cons (by kernel_rfl) (opens_i64 Try.underlying3) (opensF_one (by kernel_rfl) (by kernel_rfl) op36))).conv (fun p => ⟨p.1, p.2⟩) (fun _ => rfl) (fun _ h => h)
theorem op29 : Opens Try.prog 29 (eL DReceivedShare.e) (okL DReceivedShare.ok) := opens_slice Try.underlying29 (of_decide_eq_true (by kernel_rfl)) op38
/-- A Server. -/
structure DServer where
  Id : Int
  Rows : Int
  Round : Int
  Received : (List DReceivedShare)
  Behavior : Int
def DServer.e (x : DServer) : List T := [I x.Id, I x.Rows, I x.Round, L DReceivedShare.e x.Received, I x.Behavior]
def DServer.r (x : DServer) : List RC := [.s (I x.Id), .s (I x.Rows), .s (I x.Round), .l 2 (x.Received.map DReceivedShare.e), .s (I x.Behavior)]
def DServer.ok (x : DServer) : Prop := okI x.Id ∧ okI x.Rows ∧ okI x.Round ∧ (okL DReceivedShare.ok) x.Received ∧ okI x.Behavior
theorem op31 : Opens Try.prog 31 DServer.e DServer.ok := (opens_struct Try.underlying31 (opensF_cons (by kernel_rfl) (opens_i64 Try.underlying3) (opensF_cons (by kernel_rfl) (opens_i64 Try.underlying3) (opensF_cons (by kernel_rfl) (opens_i64 Try.underlying3) (opensF_cons (by kernel_rfl) op29 (opensF_one (by kernel_rfl) (by kernel_rfl) (opens_i64 Try.underlying3))))))).conv (fun p => ⟨p.1, p.2.1, p.2.2.1, p.2.2.2.1, p.2.2.2.2⟩) (fun _ => rfl) (fun _ h => h)
theorem op24 : Opens Try.prog 24 (eL DServer.e) (okL DServer.ok) := opens_slice Try.underlying24 (of_decide_eq_true (by kernel_rfl)) op31
theorem op25 : Opens Try.prog 25 (eL DDatabase.e) (okL DDatabase.ok) := opens_slice Try.underlying25 (of_decide_eq_true (by kernel_rfl)) op36
/-- A Receipt. -/
structure DReceipt where
  Server : Int
  Client : Int
  Round : Int
  Digest : Int
  MAC : Int
def DReceipt.e (x : DReceipt) : List T := [I x.Server, I x.Client, I x.Round, I x.Digest, I x.MAC]
def DReceipt.r (x : DReceipt) : List RC := [.s (I x.Server), .s (I x.Client), .s (I x.Round), .s (I x.Digest), .s (I x.MAC)]
def DReceipt.ok (x : DReceipt) : Prop := okI x.Server ∧ okI x.Client ∧ okI x.Round ∧ okI x.Digest ∧ okI x.MAC
theorem op51 : Opens Try.prog 51 DReceipt.e DReceipt.ok := (opens_struct Try.underlying51 (opensF_cons (by kernel_rfl) (opens_i64 Try.underlying3) (opensF_cons (by kernel_rfl) (opens_i64 Try.underlying3) (opensF_cons (by kernel_rfl) (opens_i64 Try.underlying3) (opensF_cons (by kernel_rfl) (opens_i64 Try.underlying3) (opensF_one (by kernel_rfl) (by kernel_rfl) (opens_i64 Try.underlying3))))))).conv (fun p => ⟨p.1, p.2.1, p.2.2.1, p.2.2.2.1, p.2.2.2.2⟩) (fun _ => rfl) (fun _ h => h)
theorem op26 : Opens Try.prog 26 (eL DReceipt.e) (okL DReceipt.ok) := opens_slice Try.underlying26 (of_decide_eq_true (by kernel_rfl)) op51
theorem op41 : Opens Try.prog 41 (eL eI) (okL okI) := opens_slice Try.underlying41 (of_decide_eq_true (by kernel_rfl)) (opens_i64 Try.underlying3)
theorem op59 : Opens Try.prog 59 (eL eS) (okL okS) := opens_slice Try.underlying59 (of_decide_eq_true (by kernel_rfl)) (opens_str Try.underlying9)
/-- A l1Cur. -/
structure Dl1Cur where
  b : (List UInt8)
  i : Int
  h : Int
def Dl1Cur.e (x : Dl1Cur) : List T := [L eU x.b, I x.i, I x.h]
def Dl1Cur.r (x : Dl1Cur) : List RC := [.l 1 (x.b.map eU), .s (I x.i), .s (I x.h)]
def Dl1Cur.ok (x : Dl1Cur) : Prop := (okL okU) x.b ∧ okI x.i ∧ okI x.h
theorem op61 : Opens Try.prog 61 Dl1Cur.e Dl1Cur.ok := (opens_struct Try.underlying61 (opensF_cons (by kernel_rfl) op22 (opensF_cons (by kernel_rfl) (opens_i64 Try.underlying3) (opensF_one (by kernel_rfl) (by kernel_rfl) (opens_i64 Try.underlying3))))).conv (fun p => ⟨p.1, p.2.1, p.2.2⟩) (fun _ => rfl) (fun _ h => h)
theorem op97 : Opens Try.prog 97 (eL (eL eI)) (okL (okL okI)) := opens_slice Try.underlying97 (of_decide_eq_true (by kernel_rfl)) op41
theorem op107 : Opens Try.prog 107 eU okU := (opens_u8 Try.underlying107)
theorem op108 : Opens Try.prog 108 eU okU := (opens_u8 Try.underlying108)
end Go.Proofs.Ytpipfobdfcnghaa
