/-
  Contracts: a receipt made, an audit's name.
  Conditions: none.
-/
import Derived.Test.YtpipfobdfcnghaaFnAu
namespace Go.Proofs.Ytpipfobdfcnghaa
set_option maxHeartbeats 4000000
set_option maxRecDepth 20000
open Go.Vm Go.RowKit
attribute [local irreducible] FnAt MutAt InAt JAt CurAt FnE CurE RegAt

attribute [local irreducible] shareDig rcMac servKey
def mkRcpt (k s a r : Int) (d : DDatabase) : DReceipt := ⟨s, a, r, shareDig a r d, rcMac k ⟨s, a, r, shareDig a r d, 0⟩⟩
theorem c_sMakeReceipt (k s a r : Int) (d : DDatabase) (h : szL List.length d.Rows ≤ 1099511620000) : FnAt Try.prog 43 [.one (I k), .one (I s), .one (I a), .one (I r), .agg (DDatabase.e d)] [.agg (DReceipt.r (mkRcpt k s a r d))] := by
  refine fn_of Try.func43 rfl (by kernel_rfl) rfl ?_
  all_goals repeat' (first | (with_reducible rfl) | ((conv => whnf); first | exact trivial | (with_reducible rfl) | exact (rfl : (0 : Int) = ((0 : Nat) : Int)) | exact w64_nat arith | refine bcase_T (by first | with_reducible rfl | decide) ?_ | refine bcase_F (by first | with_reducible rfl | decide) ?_ | refine bcase_dec (fun _ => ?_) (fun _ => ?_) | refine bcase_not ?_ | refine bcase_intro (fun _ => ?_) (fun _ => ?_) | refine ⟨(by with_reducible rfl), ?_⟩ | refine ⟨congrArg vi ?_, ?_⟩ | refine ⟨congrArg vb ?_, ?_⟩ | refine ⟨rfl, ?_⟩ | refine ⟨(by kernel_rfl : drawOK _ = true), ?_⟩ | refine Or.inl ?_ | refine ⟨⟨congrArg (T.int _) ?_, rfl⟩, ?_⟩ | refine ⟨⟨congrArg T.bool ?_, rfl⟩, ?_⟩ | refine ⟨⟨rfl, Nat.le_of_ble_eq_true rfl⟩, ?_⟩ | refine ⟨⟨rfl, rfl⟩, ?_⟩ | refine ⟨⟨rfl, (by decide)⟩, ?_⟩ | refine ⟨⟨rfl, ?_⟩, ?_⟩ | refine ⟨Or.inr rfl, ?_⟩ | refine ⟨Or.inl rfl, ?_⟩ | refine ⟨⟨⟨rfl, rfl, rfl⟩, ?_⟩, ?_⟩ | refine ⟨_, _, rfl, row_get _ _ arith, rfl, ?_⟩ | refine ⟨Or.inr (by repeat (first | exact trivial | refine ⟨rfl, ?_⟩)), ?_⟩ | refine ⟨(?_ : _ = ([] : List (List T))), ?_⟩ | refine ⟨_, c_sShareDigest a r d h, ?_⟩ | refine ⟨_, c_sReceiptMAC k ⟨s, a, r, shareDig a r d, 0⟩, ?_⟩ | fail))
  all_goals rfl
def nmNo : ByteArray := ⟨#[110, 111, 45, 115, 104, 97, 114, 101]⟩
def nmWrong : ByteArray := ⟨#[119, 114, 111, 110, 103, 45, 115, 104, 97, 114, 101]⟩
theorem c_AuditName1 : FnAt Try.prog 11 [.one (I 1)] [.one (.s (.str nmNo))] := by
  refine fn_of Try.func11 rfl (by kernel_rfl) rfl ?_
  all_goals repeat' (first | (with_reducible rfl) | ((conv => whnf); first | exact trivial | (with_reducible rfl) | exact (rfl : (0 : Int) = ((0 : Nat) : Int)) | exact w64_nat arith | refine bcase_T (by first | with_reducible rfl | decide) ?_ | refine bcase_F (by first | with_reducible rfl | decide) ?_ | refine bcase_dec (fun _ => ?_) (fun _ => ?_) | refine bcase_not ?_ | refine bcase_intro (fun _ => ?_) (fun _ => ?_) | refine ⟨(by with_reducible rfl), ?_⟩ | refine ⟨congrArg vi ?_, ?_⟩ | refine ⟨congrArg vb ?_, ?_⟩ | refine ⟨rfl, ?_⟩ | refine ⟨(by kernel_rfl : drawOK _ = true), ?_⟩ | refine Or.inl ?_ | refine ⟨⟨congrArg (T.int _) ?_, rfl⟩, ?_⟩ | refine ⟨⟨congrArg T.bool ?_, rfl⟩, ?_⟩ | refine ⟨⟨rfl, Nat.le_of_ble_eq_true rfl⟩, ?_⟩ | refine ⟨⟨rfl, rfl⟩, ?_⟩ | refine ⟨⟨rfl, (by decide)⟩, ?_⟩ | refine ⟨⟨rfl, ?_⟩, ?_⟩ | refine ⟨Or.inr rfl, ?_⟩ | refine ⟨Or.inl rfl, ?_⟩ | refine ⟨⟨⟨rfl, rfl, rfl⟩, ?_⟩, ?_⟩ | refine ⟨_, _, rfl, row_get _ _ arith, rfl, ?_⟩ | refine ⟨Or.inr (by repeat (first | exact trivial | refine ⟨rfl, ?_⟩)), ?_⟩ | refine ⟨(?_ : _ = ([] : List (List T))), ?_⟩ | refine ⟨_, c_InRange 1 0 3, ?_⟩ | refine bcase_F (by decide) ?_ | refine ⟨1, rfl, (by decide), ?_⟩ | refine ⟨[_], rfl, ?_⟩ | fail))
  all_goals rfl
theorem c_AuditName2 : FnAt Try.prog 11 [.one (I 2)] [.one (.s (.str nmWrong))] := by
  refine fn_of Try.func11 rfl (by kernel_rfl) rfl ?_
  all_goals repeat' (first | (with_reducible rfl) | ((conv => whnf); first | exact trivial | (with_reducible rfl) | exact (rfl : (0 : Int) = ((0 : Nat) : Int)) | exact w64_nat arith | refine bcase_T (by first | with_reducible rfl | decide) ?_ | refine bcase_F (by first | with_reducible rfl | decide) ?_ | refine bcase_dec (fun _ => ?_) (fun _ => ?_) | refine bcase_not ?_ | refine bcase_intro (fun _ => ?_) (fun _ => ?_) | refine ⟨(by with_reducible rfl), ?_⟩ | refine ⟨congrArg vi ?_, ?_⟩ | refine ⟨congrArg vb ?_, ?_⟩ | refine ⟨rfl, ?_⟩ | refine ⟨(by kernel_rfl : drawOK _ = true), ?_⟩ | refine Or.inl ?_ | refine ⟨⟨congrArg (T.int _) ?_, rfl⟩, ?_⟩ | refine ⟨⟨congrArg T.bool ?_, rfl⟩, ?_⟩ | refine ⟨⟨rfl, Nat.le_of_ble_eq_true rfl⟩, ?_⟩ | refine ⟨⟨rfl, rfl⟩, ?_⟩ | refine ⟨⟨rfl, (by decide)⟩, ?_⟩ | refine ⟨⟨rfl, ?_⟩, ?_⟩ | refine ⟨Or.inr rfl, ?_⟩ | refine ⟨Or.inl rfl, ?_⟩ | refine ⟨⟨⟨rfl, rfl, rfl⟩, ?_⟩, ?_⟩ | refine ⟨_, _, rfl, row_get _ _ arith, rfl, ?_⟩ | refine ⟨Or.inr (by repeat (first | exact trivial | refine ⟨rfl, ?_⟩)), ?_⟩ | refine ⟨(?_ : _ = ([] : List (List T))), ?_⟩ | refine ⟨_, c_InRange 2 0 3, ?_⟩ | refine bcase_F (by decide) ?_ | refine ⟨2, rfl, (by decide), ?_⟩ | refine ⟨[_], rfl, ?_⟩ | fail))
  all_goals rfl
theorem c_AuditName9 : FnAt Try.prog 11 [.one (I 9)] [.one (.s (.str ByteArray.empty))] := by
  refine fn_of Try.func11 rfl (by kernel_rfl) rfl ?_
  all_goals repeat' (first | (with_reducible rfl) | ((conv => whnf); first | exact trivial | (with_reducible rfl) | exact (rfl : (0 : Int) = ((0 : Nat) : Int)) | exact w64_nat arith | refine bcase_T (by first | with_reducible rfl | decide) ?_ | refine bcase_F (by first | with_reducible rfl | decide) ?_ | refine bcase_dec (fun _ => ?_) (fun _ => ?_) | refine bcase_not ?_ | refine bcase_intro (fun _ => ?_) (fun _ => ?_) | refine ⟨(by with_reducible rfl), ?_⟩ | refine ⟨congrArg vi ?_, ?_⟩ | refine ⟨congrArg vb ?_, ?_⟩ | refine ⟨rfl, ?_⟩ | refine ⟨(by kernel_rfl : drawOK _ = true), ?_⟩ | refine Or.inl ?_ | refine ⟨⟨congrArg (T.int _) ?_, rfl⟩, ?_⟩ | refine ⟨⟨congrArg T.bool ?_, rfl⟩, ?_⟩ | refine ⟨⟨rfl, Nat.le_of_ble_eq_true rfl⟩, ?_⟩ | refine ⟨⟨rfl, rfl⟩, ?_⟩ | refine ⟨⟨rfl, (by decide)⟩, ?_⟩ | refine ⟨⟨rfl, ?_⟩, ?_⟩ | refine ⟨Or.inr rfl, ?_⟩ | refine ⟨Or.inl rfl, ?_⟩ | refine ⟨⟨⟨rfl, rfl, rfl⟩, ?_⟩, ?_⟩ | refine ⟨_, _, rfl, row_get _ _ arith, rfl, ?_⟩ | refine ⟨Or.inr (by repeat (first | exact trivial | refine ⟨rfl, ?_⟩)), ?_⟩ | refine ⟨(?_ : _ = ([] : List (List T))), ?_⟩ | refine ⟨_, c_InRange 9 0 3, ?_⟩ | refine bcase_T (by decide) ?_ | fail))
  all_goals rfl
end Go.Proofs.Ytpipfobdfcnghaa
