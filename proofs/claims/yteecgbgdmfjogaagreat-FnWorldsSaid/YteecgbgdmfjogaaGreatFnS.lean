/-
  Contracts: servers.
  Conditions: none.
-/
import Derived.Test.YteecgbgdmfjogaaGreatFnW
namespace Go.Proofs.YteecgbgdmfjogaaGreat
set_option maxHeartbeats 4000000
set_option maxRecDepth 20000
open Go.Vm Go.RowKit
attribute [local irreducible] FnAt MutAt InAt JAt CurAt FnE CurE RegAt

def shareOk (rows : Int) (l : List DReceivedShare) (j : Nat) : Bool := match l[j]? with
  | none => true
  | some r => inR r.Client 0 7 && (decide (j = 0) || (match l[j - 1]? with | some q => decide (q.Client < r.Client) | none => true)) && dbOk r.Share && decide ((r.Share.Rows.length : Int) = rows)
theorem shareOk_eq (rows : Int) (l : List DReceivedShare) {i : Nat} (h : i < l.length) : shareOk rows l i = (inR l[i].Client 0 7 && (decide (i = 0) || decide ((l[i - 1]'(by omega)).Client < l[i].Client)) && dbOk l[i].Share && decide ((l[i].Share.Rows.length : Int) = rows)) := by
  have h2 : i - 1 < l.length := by omega
  simp only [shareOk, List.getElem?_eq_getElem h, List.getElem?_eq_getElem h2]
def servHead (s : DServer) : Bool := inR s.Id 0 3 && inR s.Rows 1 64 && inR s.Behavior 0 3 && inR s.Round 0 100000 && decide ((s.Received.length : Int) ≤ 8)
def servOk (s : DServer) : Bool := allN (shareOk s.Rows s.Received) s.Received.length 0 && servHead s
def bigS (s : DServer) : Prop := s.Received.length ≤ 1099511627776 ∧ ∀ r ∈ s.Received, bigB r.Share.Rows
theorem c_sIsValidServer (s : DServer) (h : bigS s) : FnAt Tryz.prog 113 [.agg (DServer.e s)] [.one (.s (.bool (servOk s)))] := by
  have hx := h.1
  have hm := lenm DReceivedShare.e s.Received
  refine fn_of Tryz.func113 rfl (by kernel_rfl) rfl ?_
  all_goals repeat' (first | (with_reducible rfl) | ((conv => whnf); first | exact trivial | (with_reducible rfl) | exact (rfl : (0 : Int) = ((0 : Nat) : Int)) | exact w64_nat arith | refine bcase_T (by first | with_reducible rfl | decide) ?_ | refine bcase_F (by first | with_reducible rfl | decide) ?_ | refine bcase_dec (fun _ => ?_) (fun _ => ?_) | refine bcase_not ?_ | refine bcase_intro (fun _ => ?_) (fun _ => ?_) | refine ⟨(by with_reducible rfl), ?_⟩ | refine ⟨congrArg vi ?_, ?_⟩ | refine ⟨congrArg vb ?_, ?_⟩ | refine ⟨rfl, ?_⟩ | refine ⟨(by kernel_rfl : drawOK _ = true), ?_⟩ | refine Or.inl ?_ | refine ⟨⟨congrArg (T.int _) ?_, rfl⟩, ?_⟩ | refine ⟨⟨congrArg T.bool ?_, rfl⟩, ?_⟩ | refine ⟨⟨rfl, Nat.le_of_ble_eq_true rfl⟩, ?_⟩ | refine ⟨⟨rfl, rfl⟩, ?_⟩ | refine ⟨⟨rfl, (by decide)⟩, ?_⟩ | refine ⟨⟨rfl, ?_⟩, ?_⟩ | refine ⟨Or.inr rfl, ?_⟩ | refine ⟨Or.inl rfl, ?_⟩ | refine ⟨⟨⟨rfl, rfl, rfl⟩, ?_⟩, ?_⟩ | refine ⟨_, _, rfl, row_get _ _ arith, rfl, ?_⟩ | refine ⟨Or.inr (by repeat (first | exact trivial | refine ⟨rfl, ?_⟩)), ?_⟩ | refine ⟨(?_ : _ = ([] : List (List T))), ?_⟩ | fail))
  conv => whnf
  refine ⟨Nat, fun i => i ≤ s.Received.length ∧ allN (shareOk s.Rows s.Received) s.Received.length 0 = allN (shareOk s.Rows s.Received) (s.Received.length - i) i, fun i => ⟨[(1, .ptr 0 0), (3, vi i)], [(0, .box [.t (I s.Id), .t (I s.Rows), .t (I s.Round), .t (L DReceivedShare.e s.Received), .t (I s.Behavior)])], 1⟩, fun i => s.Received.length - i, 0, ⟨Nat.zero_le _, rfl⟩, sub_at [(0, 1)] rfl rfl rfl ?_ ?_, fun i hi => ?_⟩
  all_goals repeat' (first | (with_reducible rfl) | ((conv => whnf); first | exact trivial | (with_reducible rfl) | exact (rfl : (0 : Int) = ((0 : Nat) : Int)) | exact w64_nat arith | refine bcase_T (by first | with_reducible rfl | decide) ?_ | refine bcase_F (by first | with_reducible rfl | decide) ?_ | refine bcase_dec (fun _ => ?_) (fun _ => ?_) | refine bcase_not ?_ | refine bcase_intro (fun _ => ?_) (fun _ => ?_) | refine ⟨(by with_reducible rfl), ?_⟩ | refine ⟨congrArg vi ?_, ?_⟩ | refine ⟨congrArg vb ?_, ?_⟩ | refine ⟨rfl, ?_⟩ | refine ⟨(by kernel_rfl : drawOK _ = true), ?_⟩ | refine Or.inl ?_ | refine ⟨⟨congrArg (T.int _) ?_, rfl⟩, ?_⟩ | refine ⟨⟨congrArg T.bool ?_, rfl⟩, ?_⟩ | refine ⟨⟨rfl, Nat.le_of_ble_eq_true rfl⟩, ?_⟩ | refine ⟨⟨rfl, rfl⟩, ?_⟩ | refine ⟨⟨rfl, (by decide)⟩, ?_⟩ | refine ⟨⟨rfl, ?_⟩, ?_⟩ | refine ⟨Or.inr rfl, ?_⟩ | refine ⟨Or.inl rfl, ?_⟩ | refine ⟨⟨⟨rfl, rfl, rfl⟩, ?_⟩, ?_⟩ | refine ⟨_, _, rfl, row_get _ _ arith, rfl, ?_⟩ | refine ⟨Or.inr (by repeat (first | exact trivial | refine ⟨rfl, ?_⟩)), ?_⟩ | refine ⟨(?_ : _ = ([] : List (List T))), ?_⟩ | refine ⟨_, c_l1In _ _ _, ?_⟩ | refine ⟨_, c_sIsValidDatabase (s.Received[i]'(by omega)).Share (h.2 _ (List.getElem_mem _)).1, ?_⟩ | refine ⟨i, _, rfl, row_get _ _ (by omega), rfl, ?_⟩ | refine ⟨i - 1, _, (by rw [w64_ok (by omega) (by omega)]; omega), row_get _ _ (by omega), rfl, ?_⟩ | refine ⟨i + 1, ⟨⟨arith, ?_⟩, arith⟩, sub_at [(0, 1)] rfl rfl rfl ?_ ?_⟩ | fail))
  all_goals first
    | (have h0 : i < s.Received.length := (by omega); rw [hi.2, allN_T h0 (by rw [shareOk_eq _ _ h0]; simp_all <;> omega)]; done)
    | (have h0 : i < s.Received.length := (by omega); unfold servOk; rw [hi.2, allN_F h0 (by rw [shareOk_eq _ _ h0]; simp_all <;> omega)]; rfl)
    | (unfold servOk servHead; rw [hi.2, allN_end (by omega)]; simp_all; done)
    | skip
theorem c_IsValidServer (s : DServer) (h : bigS s) : FnAt Tryz.prog 32 [.agg (DServer.e s)] [.one (.s (.bool (servOk s)))] := by
  have hx := h.1
  have hm := lenm DReceivedShare.e s.Received
  refine fn_of Tryz.func32 rfl (by kernel_rfl) rfl ?_
  all_goals repeat' (first | (with_reducible rfl) | ((conv => whnf); first | exact trivial | (with_reducible rfl) | exact (rfl : (0 : Int) = ((0 : Nat) : Int)) | exact w64_nat arith | refine bcase_T (by first | with_reducible rfl | decide) ?_ | refine bcase_F (by first | with_reducible rfl | decide) ?_ | refine bcase_dec (fun _ => ?_) (fun _ => ?_) | refine bcase_not ?_ | refine bcase_intro (fun _ => ?_) (fun _ => ?_) | refine ⟨(by with_reducible rfl), ?_⟩ | refine ⟨congrArg vi ?_, ?_⟩ | refine ⟨congrArg vb ?_, ?_⟩ | refine ⟨rfl, ?_⟩ | refine ⟨(by kernel_rfl : drawOK _ = true), ?_⟩ | refine Or.inl ?_ | refine ⟨⟨congrArg (T.int _) ?_, rfl⟩, ?_⟩ | refine ⟨⟨congrArg T.bool ?_, rfl⟩, ?_⟩ | refine ⟨⟨rfl, Nat.le_of_ble_eq_true rfl⟩, ?_⟩ | refine ⟨⟨rfl, rfl⟩, ?_⟩ | refine ⟨⟨rfl, (by decide)⟩, ?_⟩ | refine ⟨⟨rfl, ?_⟩, ?_⟩ | refine ⟨Or.inr rfl, ?_⟩ | refine ⟨Or.inl rfl, ?_⟩ | refine ⟨⟨⟨rfl, rfl, rfl⟩, ?_⟩, ?_⟩ | refine ⟨_, _, rfl, row_get _ _ arith, rfl, ?_⟩ | refine ⟨Or.inr (by repeat (first | exact trivial | refine ⟨rfl, ?_⟩)), ?_⟩ | refine ⟨(?_ : _ = ([] : List (List T))), ?_⟩ | refine ⟨_, c_InRange _ _ _, ?_⟩ | fail))
  all_goals first
    | (have e : servHead s = false := (by unfold servHead; grind); unfold servOk; rw [e, Bool.and_false]; done)
    | skip
  have e : servHead s = true := by unfold servHead; grind
  conv => whnf
  refine ⟨Nat, fun i => i ≤ s.Received.length ∧ allN (shareOk s.Rows s.Received) s.Received.length 0 = allN (shareOk s.Rows s.Received) (s.Received.length - i) i, fun i => ⟨[(1, .ptr 0 0), (34, vl (s.Received.map DReceivedShare.e)), (35, vi s.Received.length), (36, vi i)], [(0, .box [.t (I s.Id), .t (I s.Rows), .t (I s.Round), .t (L DReceivedShare.e s.Received), .t (I s.Behavior)])], 1⟩, fun i => s.Received.length - i, 0, ⟨Nat.zero_le _, rfl⟩, sub_at [(0, 1)] rfl rfl rfl ?_ ?_, fun i hi => ?_⟩
  all_goals repeat' (first | (with_reducible rfl) | ((conv => whnf); first | exact trivial | (with_reducible rfl) | exact (rfl : (0 : Int) = ((0 : Nat) : Int)) | exact w64_nat arith | refine bcase_T (by first | with_reducible rfl | decide) ?_ | refine bcase_F (by first | with_reducible rfl | decide) ?_ | refine bcase_dec (fun _ => ?_) (fun _ => ?_) | refine bcase_not ?_ | refine bcase_intro (fun _ => ?_) (fun _ => ?_) | refine ⟨(by with_reducible rfl), ?_⟩ | refine ⟨congrArg vi ?_, ?_⟩ | refine ⟨congrArg vb ?_, ?_⟩ | refine ⟨rfl, ?_⟩ | refine ⟨(by kernel_rfl : drawOK _ = true), ?_⟩ | refine Or.inl ?_ | refine ⟨⟨congrArg (T.int _) ?_, rfl⟩, ?_⟩ | refine ⟨⟨congrArg T.bool ?_, rfl⟩, ?_⟩ | refine ⟨⟨rfl, Nat.le_of_ble_eq_true rfl⟩, ?_⟩ | refine ⟨⟨rfl, rfl⟩, ?_⟩ | refine ⟨⟨rfl, (by decide)⟩, ?_⟩ | refine ⟨⟨rfl, ?_⟩, ?_⟩ | refine ⟨Or.inr rfl, ?_⟩ | refine ⟨Or.inl rfl, ?_⟩ | refine ⟨⟨⟨rfl, rfl, rfl⟩, ?_⟩, ?_⟩ | refine ⟨_, _, rfl, row_get _ _ arith, rfl, ?_⟩ | refine ⟨Or.inr (by repeat (first | exact trivial | refine ⟨rfl, ?_⟩)), ?_⟩ | refine ⟨(?_ : _ = ([] : List (List T))), ?_⟩ | refine ⟨_, c_InRange _ _ _, ?_⟩ | refine ⟨_, c_IsValidDatabase (s.Received[i]'(by omega)).Share (h.2 _ (List.getElem_mem _)).1, ?_⟩ | refine ⟨i, _, rfl, row_get _ _ (by omega), rfl, ?_⟩ | refine ⟨i - 1, _, (by rw [w64_ok (by omega) (by omega)]; omega), row_get _ _ (by omega), rfl, ?_⟩ | refine ⟨i + 1, ⟨⟨arith, ?_⟩, arith⟩, sub_at [(0, 1)] rfl rfl rfl ?_ ?_⟩ | fail))
  all_goals first
    | (rw [List.length_map]; done)
    | (have h0 : i < s.Received.length := (by omega); rw [hi.2, allN_T h0 (by rw [shareOk_eq _ _ h0]; simp_all <;> omega)]; done)
    | (have h0 : i < s.Received.length := (by omega); unfold servOk; rw [hi.2, allN_F h0 (by rw [shareOk_eq _ _ h0]; simp_all <;> omega)]; rfl)
    | (have e2 : allN (shareOk s.Rows s.Received) s.Received.length 0 = true := (by rw [hi.2]; exact allN_end (by omega)); simp [servOk, e2, e]; done)
    | skip
end Go.Proofs.YteecgbgdmfjogaaGreat
