/-
  Contracts: audits of servers and of rounds.
  Conditions: none.
-/
import Derived.Test.YtpipfobdfcnghaaFnAu
import Derived.Test.YtpipfobdfcnghaaFnS2
namespace Go.Proofs.Ytpipfobdfcnghaa
set_option maxHeartbeats 4000000
set_option maxRecDepth 20000
open Go.Vm Go.RowKit
attribute [local irreducible] FnAt MutAt InAt JAt CurAt FnE CurE RegAt

attribute [local irreducible] servOk sumS shareDig rcMac servKey
def findS (l : List DReceivedShare) (c : Int) : Option DReceivedShare := l.find? fun r => decide (r.Client = c)
theorem findS_T {l : List DReceivedShare} {c : Int} {i : Nat} (h : i < l.length) (hp : l[i].Client = c) : findS (l.drop i) c = some l[i] := by
  unfold findS; rw [List.drop_eq_getElem_cons h, List.find?_cons, decide_eq_true hp]
theorem findS_F {l : List DReceivedShare} {c : Int} {i : Nat} (h : i < l.length) (hp : ¬ l[i].Client = c) : findS (l.drop i) c = findS (l.drop (i + 1)) c := by
  unfold findS; rw [List.drop_eq_getElem_cons h, List.find?_cons, decide_eq_false hp]
theorem findS_end {l : List DReceivedShare} {c : Int} {i : Nat} (h : l.length ≤ i) : findS (l.drop i) c = none := by
  unfold findS; rw [List.drop_of_length_le h]; rfl
theorem findS_mem {l : List DReceivedShare} {c : Int} {r : DReceivedShare} (h : findS l c = some r) : r ∈ l := List.mem_of_find?_eq_some h
def shareHas (s : DServer) (c : Int) : Bool := (findS s.Received c).isSome
def shareOf (s : DServer) (c : Int) : DDatabase := match findS s.Received c with
  | some r => r.Share
  | none => ⟨[]⟩
theorem c_ShareOf (s : DServer) (c : Int) (h : bigS s) : FnAt Try.prog 21 [.agg (DServer.e s), .one (I c)] [.agg (DDatabase.r (shareOf s c)), .one (.s (.bool (shareHas s c)))] := by
  have hx := h.1
  have hm := lenm DReceivedShare.e s.Received
  refine fn_of Try.func21 rfl (by kernel_rfl) rfl ?_
  all_goals repeat' (first | (with_reducible rfl) | ((conv => whnf); first | exact trivial | (with_reducible rfl) | exact (rfl : (0 : Int) = ((0 : Nat) : Int)) | exact w64_nat arith | refine bcase_T (by first | with_reducible rfl | decide) ?_ | refine bcase_F (by first | with_reducible rfl | decide) ?_ | refine bcase_dec (fun _ => ?_) (fun _ => ?_) | refine bcase_not ?_ | refine bcase_intro (fun _ => ?_) (fun _ => ?_) | refine ⟨(by with_reducible rfl), ?_⟩ | refine ⟨congrArg vi ?_, ?_⟩ | refine ⟨congrArg vb ?_, ?_⟩ | refine ⟨rfl, ?_⟩ | refine ⟨(by kernel_rfl : drawOK _ = true), ?_⟩ | refine Or.inl ?_ | refine ⟨⟨congrArg (T.int _) ?_, rfl⟩, ?_⟩ | refine ⟨⟨congrArg T.bool ?_, rfl⟩, ?_⟩ | refine ⟨⟨rfl, Nat.le_of_ble_eq_true rfl⟩, ?_⟩ | refine ⟨⟨rfl, rfl⟩, ?_⟩ | refine ⟨⟨rfl, (by decide)⟩, ?_⟩ | refine ⟨⟨rfl, ?_⟩, ?_⟩ | refine ⟨Or.inr rfl, ?_⟩ | refine ⟨Or.inl rfl, ?_⟩ | refine ⟨⟨⟨rfl, rfl, rfl⟩, ?_⟩, ?_⟩ | refine ⟨_, _, rfl, row_get _ _ arith, rfl, ?_⟩ | refine ⟨Or.inr (by repeat (first | exact trivial | refine ⟨rfl, ?_⟩)), ?_⟩ | refine ⟨(?_ : _ = ([] : List (List T))), ?_⟩ | fail))
  conv => whnf
  refine ⟨Nat, fun i => i ≤ s.Received.length ∧ findS s.Received c = findS (s.Received.drop i) c, fun i => ⟨[(1, vi c), (4, .ptr 0 0), (9, vl (s.Received.map DReceivedShare.e)), (10, vi s.Received.length), (11, vi i)], [(0, .box [.nil])], 1⟩, fun i => s.Received.length - i, 0, ⟨Nat.zero_le _, rfl⟩, sub_at [(0, 4)] rfl rfl rfl ?_ ?_, fun i hi => ?_⟩
  all_goals repeat' (first | (with_reducible rfl) | ((conv => whnf); first | exact trivial | (with_reducible rfl) | exact (rfl : (0 : Int) = ((0 : Nat) : Int)) | exact w64_nat arith | refine bcase_T (by first | with_reducible rfl | decide) ?_ | refine bcase_F (by first | with_reducible rfl | decide) ?_ | refine bcase_dec (fun _ => ?_) (fun _ => ?_) | refine bcase_not ?_ | refine bcase_intro (fun _ => ?_) (fun _ => ?_) | refine ⟨(by with_reducible rfl), ?_⟩ | refine ⟨congrArg vi ?_, ?_⟩ | refine ⟨congrArg vb ?_, ?_⟩ | refine ⟨rfl, ?_⟩ | refine ⟨(by kernel_rfl : drawOK _ = true), ?_⟩ | refine Or.inl ?_ | refine ⟨⟨congrArg (T.int _) ?_, rfl⟩, ?_⟩ | refine ⟨⟨congrArg T.bool ?_, rfl⟩, ?_⟩ | refine ⟨⟨rfl, Nat.le_of_ble_eq_true rfl⟩, ?_⟩ | refine ⟨⟨rfl, rfl⟩, ?_⟩ | refine ⟨⟨rfl, (by decide)⟩, ?_⟩ | refine ⟨⟨rfl, ?_⟩, ?_⟩ | refine ⟨Or.inr rfl, ?_⟩ | refine ⟨Or.inl rfl, ?_⟩ | refine ⟨⟨⟨rfl, rfl, rfl⟩, ?_⟩, ?_⟩ | refine ⟨_, _, rfl, row_get _ _ arith, rfl, ?_⟩ | refine ⟨Or.inr (by repeat (first | exact trivial | refine ⟨rfl, ?_⟩)), ?_⟩ | refine ⟨(?_ : _ = ([] : List (List T))), ?_⟩ | refine ⟨_, c_copyDatabase (s.Received[i]'(by omega)).Share (h.2 _ (List.getElem_mem _)), ?_⟩ | refine ⟨i, _, rfl, row_get _ _ (by omega), rfl, ?_⟩ | refine ⟨i + 1, ⟨⟨arith, ?_⟩, arith⟩, sub_at [(0, 4)] rfl rfl rfl ?_ ?_⟩ | fail))
  all_goals first
    | (rw [hm]; done)
    | (rw [hi.2, findS_F (by omega) (by assumption)]; done)
    | (unfold shareOf; rw [hi.2, findS_T (by omega) (by assumption)]; done)
    | (unfold shareHas; rw [hi.2, findS_T (by omega) (by assumption)]; rfl)
    | (unfold shareOf; rw [hi.2, findS_end (by omega)]; rfl)
    | (unfold shareHas; rw [hi.2, findS_end (by omega)]; rfl)
    | skip
theorem c_sShareOf (s : DServer) (c : Int) (h : bigS s) : FnAt Try.prog 27 [.agg (DServer.e s), .one (I c)] [.agg (DDatabase.r (shareOf s c)), .one (.s (.bool (shareHas s c)))] := by
  have hx := h.1
  have hm := lenm DReceivedShare.e s.Received
  refine fn_of Try.func27 rfl (by kernel_rfl) rfl ?_
  all_goals repeat' (first | (with_reducible rfl) | ((conv => whnf); first | exact trivial | (with_reducible rfl) | exact (rfl : (0 : Int) = ((0 : Nat) : Int)) | exact w64_nat arith | refine bcase_T (by first | with_reducible rfl | decide) ?_ | refine bcase_F (by first | with_reducible rfl | decide) ?_ | refine bcase_dec (fun _ => ?_) (fun _ => ?_) | refine bcase_not ?_ | refine bcase_intro (fun _ => ?_) (fun _ => ?_) | refine ⟨(by with_reducible rfl), ?_⟩ | refine ⟨congrArg vi ?_, ?_⟩ | refine ⟨congrArg vb ?_, ?_⟩ | refine ⟨rfl, ?_⟩ | refine ⟨(by kernel_rfl : drawOK _ = true), ?_⟩ | refine Or.inl ?_ | refine ⟨⟨congrArg (T.int _) ?_, rfl⟩, ?_⟩ | refine ⟨⟨congrArg T.bool ?_, rfl⟩, ?_⟩ | refine ⟨⟨rfl, Nat.le_of_ble_eq_true rfl⟩, ?_⟩ | refine ⟨⟨rfl, rfl⟩, ?_⟩ | refine ⟨⟨rfl, (by decide)⟩, ?_⟩ | refine ⟨⟨rfl, ?_⟩, ?_⟩ | refine ⟨Or.inr rfl, ?_⟩ | refine ⟨Or.inl rfl, ?_⟩ | refine ⟨⟨⟨rfl, rfl, rfl⟩, ?_⟩, ?_⟩ | refine ⟨_, _, rfl, row_get _ _ arith, rfl, ?_⟩ | refine ⟨Or.inr (by repeat (first | exact trivial | refine ⟨rfl, ?_⟩)), ?_⟩ | refine ⟨(?_ : _ = ([] : List (List T))), ?_⟩ | fail))
  conv => whnf
  refine ⟨Nat, fun i => i ≤ s.Received.length ∧ findS s.Received c = findS (s.Received.drop i) c, fun i => ⟨[(1, vi c), (2, .ptr 0 0), (4, .ptr 1 0), (6, vi i)], [(0, .box ((DServer.e s).map .t)), (1, .box [.nil])], 2⟩, fun i => s.Received.length - i, 0, ⟨Nat.zero_le _, rfl⟩, sub_at [(0, 2), (1, 4)] rfl rfl rfl ?_ ?_, fun i hi => ?_⟩
  all_goals repeat' (first | (with_reducible rfl) | ((conv => whnf); first | exact trivial | (with_reducible rfl) | exact (rfl : (0 : Int) = ((0 : Nat) : Int)) | exact w64_nat arith | refine bcase_T (by first | with_reducible rfl | decide) ?_ | refine bcase_F (by first | with_reducible rfl | decide) ?_ | refine bcase_dec (fun _ => ?_) (fun _ => ?_) | refine bcase_not ?_ | refine bcase_intro (fun _ => ?_) (fun _ => ?_) | refine ⟨(by with_reducible rfl), ?_⟩ | refine ⟨congrArg vi ?_, ?_⟩ | refine ⟨congrArg vb ?_, ?_⟩ | refine ⟨rfl, ?_⟩ | refine ⟨(by kernel_rfl : drawOK _ = true), ?_⟩ | refine Or.inl ?_ | refine ⟨⟨congrArg (T.int _) ?_, rfl⟩, ?_⟩ | refine ⟨⟨congrArg T.bool ?_, rfl⟩, ?_⟩ | refine ⟨⟨rfl, Nat.le_of_ble_eq_true rfl⟩, ?_⟩ | refine ⟨⟨rfl, rfl⟩, ?_⟩ | refine ⟨⟨rfl, (by decide)⟩, ?_⟩ | refine ⟨⟨rfl, ?_⟩, ?_⟩ | refine ⟨Or.inr rfl, ?_⟩ | refine ⟨Or.inl rfl, ?_⟩ | refine ⟨⟨⟨rfl, rfl, rfl⟩, ?_⟩, ?_⟩ | refine ⟨_, _, rfl, row_get _ _ arith, rfl, ?_⟩ | refine ⟨Or.inr (by repeat (first | exact trivial | refine ⟨rfl, ?_⟩)), ?_⟩ | refine ⟨(?_ : _ = ([] : List (List T))), ?_⟩ | refine ⟨_, c_l8Copy (s.Received[i]'(by omega)).Share (h.2 _ (List.getElem_mem _)), ?_⟩ | refine ⟨i, _, rfl, row_get _ _ (by omega), rfl, ?_⟩ | refine ⟨i + 1, ⟨⟨arith, ?_⟩, arith⟩, sub_at [(0, 2), (1, 4)] rfl rfl rfl ?_ ?_⟩ | fail))
  all_goals first
    | (rw [hi.2, findS_F (by omega) (by assumption)]; done)
    | (unfold shareOf; rw [hi.2, findS_T (by omega) (by assumption)]; done)
    | (unfold shareHas; rw [hi.2, findS_T (by omega) (by assumption)]; rfl)
    | (unfold shareOf; rw [hi.2, findS_end (by omega)]; rfl)
    | (unfold shareHas; rw [hi.2, findS_end (by omega)]; rfl)
    | skip
def bigT (s : DServer) : Prop := bigS s ∧ ∀ r ∈ s.Received, szL List.length r.Share.Rows ≤ 1099511620000
theorem shareOf_sz {s : DServer} (h : bigT s) (c : Int) : szL List.length (shareOf s c).Rows ≤ 1099511620000 := by
  unfold shareOf
  split
  · next r e => exact h.2 r (findS_mem e)
  · simp [szL]
def rcHit (k : Int) (s : DServer) (r : DReceipt) : Bool := decide (r.Server = s.Id) && decide (r.Round = s.Round) && decide (r.MAC = rcMac k r)
def audit (k : Int) (s : DServer) (p : DDatabase) : List DReceipt → Int
  | [] => if servOk s && (p.Rows == (sumS s).Rows) then 0 else 3
  | r :: l => if rcHit k s r then (if shareHas s r.Client then (if r.Digest = shareDig r.Client r.Round (shareOf s r.Client) then audit k s p l else 2) else 1) else audit k s p l
theorem audit_step (k : Int) (s : DServer) (p : DDatabase) {l : List DReceipt} {i : Nat} (h : i < l.length) : audit k s p (l.drop i) = if rcHit k s l[i] then (if shareHas s l[i].Client then (if l[i].Digest = shareDig l[i].Client l[i].Round (shareOf s l[i].Client) then audit k s p (l.drop (i + 1)) else 2) else 1) else audit k s p (l.drop (i + 1)) := by
  rw [List.drop_eq_getElem_cons h, audit]
theorem audit_end (k : Int) (s : DServer) (p : DDatabase) {l : List DReceipt} {i : Nat} (h : l.length ≤ i) : audit k s p (l.drop i) = if servOk s && (p.Rows == (sumS s).Rows) then 0 else 3 := by
  rw [List.drop_of_length_le h, audit]
theorem c_AuditServer (k : Int) (s : DServer) (p : DDatabase) (rs : List DReceipt) (h : bigT s) (hp : bigB p.Rows) (hr : rs.length ≤ 1099511627776) : FnAt Try.prog 8 [.one (I k), .agg (DServer.e s), .agg (DDatabase.e p), .one (L DReceipt.e rs)] [.one (.s (I (audit k s p rs)))] := by
  have hm := lenm DReceipt.e rs
  refine fn_of Try.func8 rfl (by kernel_rfl) rfl ?_
  all_goals repeat' (first | (with_reducible rfl) | ((conv => whnf); first | exact trivial | (with_reducible rfl) | exact (rfl : (0 : Int) = ((0 : Nat) : Int)) | exact w64_nat arith | refine bcase_T (by first | with_reducible rfl | decide) ?_ | refine bcase_F (by first | with_reducible rfl | decide) ?_ | refine bcase_dec (fun _ => ?_) (fun _ => ?_) | refine bcase_not ?_ | refine bcase_intro (fun _ => ?_) (fun _ => ?_) | refine ⟨(by with_reducible rfl), ?_⟩ | refine ⟨congrArg vi ?_, ?_⟩ | refine ⟨congrArg vb ?_, ?_⟩ | refine ⟨rfl, ?_⟩ | refine ⟨(by kernel_rfl : drawOK _ = true), ?_⟩ | refine Or.inl ?_ | refine ⟨⟨congrArg (T.int _) ?_, rfl⟩, ?_⟩ | refine ⟨⟨congrArg T.bool ?_, rfl⟩, ?_⟩ | refine ⟨⟨rfl, Nat.le_of_ble_eq_true rfl⟩, ?_⟩ | refine ⟨⟨rfl, rfl⟩, ?_⟩ | refine ⟨⟨rfl, (by decide)⟩, ?_⟩ | refine ⟨⟨rfl, ?_⟩, ?_⟩ | refine ⟨Or.inr rfl, ?_⟩ | refine ⟨Or.inl rfl, ?_⟩ | refine ⟨⟨⟨rfl, rfl, rfl⟩, ?_⟩, ?_⟩ | refine ⟨_, _, rfl, row_get _ _ arith, rfl, ?_⟩ | refine ⟨Or.inr (by repeat (first | exact trivial | refine ⟨rfl, ?_⟩)), ?_⟩ | refine ⟨(?_ : _ = ([] : List (List T))), ?_⟩ | fail))
  conv => whnf
  refine ⟨Nat, fun i => i ≤ rs.length ∧ audit k s p rs = audit k s p (rs.drop i), fun i => ⟨[(0, vi k), (5, .ptr 0 0), (6, .ptr 1 0), (13, vl (rs.map DReceipt.e)), (14, vi rs.length), (15, vi i)], [(0, .box ((DServer.e s).map .t)), (1, .box ((DDatabase.e p).map .t))], 2⟩, fun i => rs.length - i, 0, ⟨Nat.zero_le _, rfl⟩, sub_at [(0, 5), (1, 6)] rfl rfl rfl ?_ ?_, fun i hi => ?_⟩
  all_goals repeat' (first | (with_reducible rfl) | ((conv => whnf); first | exact trivial | (with_reducible rfl) | exact (rfl : (0 : Int) = ((0 : Nat) : Int)) | exact w64_nat arith | refine bcase_T (by first | with_reducible rfl | decide) ?_ | refine bcase_F (by first | with_reducible rfl | decide) ?_ | refine bcase_dec (fun _ => ?_) (fun _ => ?_) | refine bcase_not ?_ | refine bcase_intro (fun _ => ?_) (fun _ => ?_) | refine ⟨(by with_reducible rfl), ?_⟩ | refine ⟨congrArg vi ?_, ?_⟩ | refine ⟨congrArg vb ?_, ?_⟩ | refine ⟨rfl, ?_⟩ | refine ⟨(by kernel_rfl : drawOK _ = true), ?_⟩ | refine Or.inl ?_ | refine ⟨⟨congrArg (T.int _) ?_, rfl⟩, ?_⟩ | refine ⟨⟨congrArg T.bool ?_, rfl⟩, ?_⟩ | refine ⟨⟨rfl, Nat.le_of_ble_eq_true rfl⟩, ?_⟩ | refine ⟨⟨rfl, rfl⟩, ?_⟩ | refine ⟨⟨rfl, (by decide)⟩, ?_⟩ | refine ⟨⟨rfl, ?_⟩, ?_⟩ | refine ⟨Or.inr rfl, ?_⟩ | refine ⟨Or.inl rfl, ?_⟩ | refine ⟨⟨⟨rfl, rfl, rfl⟩, ?_⟩, ?_⟩ | refine ⟨_, _, rfl, row_get _ _ arith, rfl, ?_⟩ | refine ⟨Or.inr (by repeat (first | exact trivial | refine ⟨rfl, ?_⟩)), ?_⟩ | refine ⟨(?_ : _ = ([] : List (List T))), ?_⟩ | refine ⟨_, c_VerifyReceipt k (rs[i]'(by omega)), ?_⟩ | refine ⟨_, c_ShareOf s _ h.1, ?_⟩ | refine ⟨_, c_ReceiptMatches (rs[i]'(by omega)) (shareOf s (rs[i]'(by omega)).Client) (shareOf_sz h _), ?_⟩ | refine ⟨_, c_IsValidServer s h.1, ?_⟩ | refine ⟨_, c_SumOfShares s h.1, ?_⟩ | refine ⟨_, c_EqualDatabases p (sumS s) hp, ?_⟩ | refine ⟨i, _, rfl, row_get _ _ (by omega), rfl, ?_⟩ | refine ⟨i + 1, ⟨⟨arith, ?_⟩, arith⟩, sub_at [(0, 5), (1, 6)] rfl rfl rfl ?_ ?_⟩ | fail))
  all_goals first
    | (rw [hm]; done)
    | (have h0 : i < rs.length := (by omega); rw [hi.2, audit_step k s p h0]; simp_all [rcHit]; done)
    | (rw [hi.2, audit_end k s p (by omega)]; simp_all; done)
    | skip
theorem c_sAuditServer (k : Int) (s : DServer) (p : DDatabase) (rs : List DReceipt) (h : bigT s) (hp : bigB p.Rows) (hr : rs.length ≤ 1099511627776) : FnAt Try.prog 9 [.one (I k), .agg (DServer.e s), .agg (DDatabase.e p), .one (L DReceipt.e rs)] [.one (.s (I (audit k s p rs)))] := by
  have hm := lenm DReceipt.e rs
  refine fn_of Try.func9 rfl (by kernel_rfl) rfl ?_
  all_goals repeat' (first | (with_reducible rfl) | ((conv => whnf); first | exact trivial | (with_reducible rfl) | exact (rfl : (0 : Int) = ((0 : Nat) : Int)) | exact w64_nat arith | refine bcase_T (by first | with_reducible rfl | decide) ?_ | refine bcase_F (by first | with_reducible rfl | decide) ?_ | refine bcase_dec (fun _ => ?_) (fun _ => ?_) | refine bcase_not ?_ | refine bcase_intro (fun _ => ?_) (fun _ => ?_) | refine ⟨(by with_reducible rfl), ?_⟩ | refine ⟨congrArg vi ?_, ?_⟩ | refine ⟨congrArg vb ?_, ?_⟩ | refine ⟨rfl, ?_⟩ | refine ⟨(by kernel_rfl : drawOK _ = true), ?_⟩ | refine Or.inl ?_ | refine ⟨⟨congrArg (T.int _) ?_, rfl⟩, ?_⟩ | refine ⟨⟨congrArg T.bool ?_, rfl⟩, ?_⟩ | refine ⟨⟨rfl, Nat.le_of_ble_eq_true rfl⟩, ?_⟩ | refine ⟨⟨rfl, rfl⟩, ?_⟩ | refine ⟨⟨rfl, (by decide)⟩, ?_⟩ | refine ⟨⟨rfl, ?_⟩, ?_⟩ | refine ⟨Or.inr rfl, ?_⟩ | refine ⟨Or.inl rfl, ?_⟩ | refine ⟨⟨⟨rfl, rfl, rfl⟩, ?_⟩, ?_⟩ | refine ⟨_, _, rfl, row_get _ _ arith, rfl, ?_⟩ | refine ⟨Or.inr (by repeat (first | exact trivial | refine ⟨rfl, ?_⟩)), ?_⟩ | refine ⟨(?_ : _ = ([] : List (List T))), ?_⟩ | fail))
  conv => whnf
  refine ⟨Nat, fun i => i ≤ rs.length ∧ audit k s p rs = audit k s p (rs.drop i), fun i => ⟨[(0, vi k), (3, vl (rs.map DReceipt.e)), (5, .ptr 0 0), (6, .ptr 1 0), (9, vi i)], [(0, .box ((DServer.e s).map .t)), (1, .box ((DDatabase.e p).map .t))], 2⟩, fun i => rs.length - i, 0, ⟨Nat.zero_le _, rfl⟩, sub_at [(0, 5), (1, 6)] rfl rfl rfl ?_ ?_, fun i hi => ?_⟩
  all_goals repeat' (first | (with_reducible rfl) | ((conv => whnf); first | exact trivial | (with_reducible rfl) | exact (rfl : (0 : Int) = ((0 : Nat) : Int)) | exact w64_nat arith | refine bcase_T (by first | with_reducible rfl | decide) ?_ | refine bcase_F (by first | with_reducible rfl | decide) ?_ | refine bcase_dec (fun _ => ?_) (fun _ => ?_) | refine bcase_not ?_ | refine bcase_intro (fun _ => ?_) (fun _ => ?_) | refine ⟨(by with_reducible rfl), ?_⟩ | refine ⟨congrArg vi ?_, ?_⟩ | refine ⟨congrArg vb ?_, ?_⟩ | refine ⟨rfl, ?_⟩ | refine ⟨(by kernel_rfl : drawOK _ = true), ?_⟩ | refine Or.inl ?_ | refine ⟨⟨congrArg (T.int _) ?_, rfl⟩, ?_⟩ | refine ⟨⟨congrArg T.bool ?_, rfl⟩, ?_⟩ | refine ⟨⟨rfl, Nat.le_of_ble_eq_true rfl⟩, ?_⟩ | refine ⟨⟨rfl, rfl⟩, ?_⟩ | refine ⟨⟨rfl, (by decide)⟩, ?_⟩ | refine ⟨⟨rfl, ?_⟩, ?_⟩ | refine ⟨Or.inr rfl, ?_⟩ | refine ⟨Or.inl rfl, ?_⟩ | refine ⟨⟨⟨rfl, rfl, rfl⟩, ?_⟩, ?_⟩ | refine ⟨_, _, rfl, row_get _ _ arith, rfl, ?_⟩ | refine ⟨Or.inr (by repeat (first | exact trivial | refine ⟨rfl, ?_⟩)), ?_⟩ | refine ⟨(?_ : _ = ([] : List (List T))), ?_⟩ | refine ⟨_, c_sVerifyReceipt k (rs[i]'(by omega)), ?_⟩ | refine ⟨_, c_sShareOf s _ h.1, ?_⟩ | refine ⟨_, c_sReceiptMatches (rs[i]'(by omega)) (shareOf s (rs[i]'(by omega)).Client) (shareOf_sz h _), ?_⟩ | refine ⟨_, c_sIsValidServer s h.1, ?_⟩ | refine ⟨_, c_sSumOfShares s h.1, ?_⟩ | refine ⟨_, c_sEqualDatabases p (sumS s) hp, ?_⟩ | refine ⟨i, _, rfl, row_get _ _ (by omega), rfl, ?_⟩ | refine ⟨i + 1, ⟨⟨arith, ?_⟩, arith⟩, sub_at [(0, 5), (1, 6)] rfl rfl rfl ?_ ?_⟩ | fail))
  all_goals first
    | (have h0 : i < rs.length := (by omega); rw [hi.2, audit_step k s p h0]; simp_all [rcHit]; done)
    | (rw [hi.2, audit_end k s p (by omega)]; simp_all; done)
    | skip
attribute [local irreducible] audit
def badAt (m : Int) (ss : List DServer) (ps : List DDatabase) (rs : List DReceipt) (i : Nat) : Bool := match ss[i]? with
  | some s => match ps[i]? with
    | some p => !decide (audit (servKey m s.Id) s p rs = 0)
    | none => true
  | none => false
def audits (m : Int) (ss : List DServer) (ps : List DDatabase) (rs : List DReceipt) : Nat → List Int
  | 0 => []
  | i + 1 => audits m ss ps rs i ++ (if badAt m ss ps rs i then [match ss[i]? with | some s => s.Id | none => 0] else [])
theorem audits_T {m : Int} {ss : List DServer} {ps : List DDatabase} {rs : List DReceipt} {i : Nat} (h : i < ss.length) (hb : badAt m ss ps rs i = true) : audits m ss ps rs (i + 1) = audits m ss ps rs i ++ [ss[i].Id] := by
  simp only [audits, hb, if_true, List.getElem?_eq_getElem h]
theorem audits_F {m : Int} {ss : List DServer} {ps : List DDatabase} {rs : List DReceipt} {i : Nat} (hb : badAt m ss ps rs i = false) : audits m ss ps rs (i + 1) = audits m ss ps rs i := by
  simp [audits, hb]
theorem audits_len (m : Int) (ss : List DServer) (ps : List DDatabase) (rs : List DReceipt) : ∀ i, (audits m ss ps rs i).length ≤ i
  | 0 => Nat.le_refl _
  | i + 1 => by
    have := audits_len m ss ps rs i
    simp only [audits, List.length_append]
    split <;> simp <;> omega
theorem badAt_out {m : Int} {ss : List DServer} {ps : List DDatabase} {rs : List DReceipt} {i : Nat} (h : i < ss.length) (h2 : ps.length ≤ i) : badAt m ss ps rs i = true := by
  simp only [badAt, List.getElem?_eq_getElem h, List.getElem?_eq_none h2]
theorem badAt_in {m : Int} {ss : List DServer} {ps : List DDatabase} {rs : List DReceipt} {i : Nat} (h : i < ss.length) (h2 : i < ps.length) : badAt m ss ps rs i = !decide (audit (servKey m ss[i].Id) ss[i] ps[i] rs = 0) := by
  simp only [badAt, List.getElem?_eq_getElem h, List.getElem?_eq_getElem h2]
def bigTs (l : List DServer) : Prop := l.length ≤ 1099511627776 ∧ ∀ s ∈ l, bigT s
theorem c_AuditRound (m : Int) (ss : List DServer) (ps : List DDatabase) (rs : List DReceipt) (h : bigTs ss) (hp : bigL ps) (hr : rs.length ≤ 1099511627776) : FnAt Try.prog 12 [.one (I m), .one (L DServer.e ss), .one (L DDatabase.e ps), .one (L DReceipt.e rs)] [.one (.l 1 ((audits m ss ps rs ss.length).map eI))] := by
  have hx := h.1
  have hm := lenm DServer.e ss
  have hmp := lenm DDatabase.e ps
  have hal := audits_len m ss ps rs
  refine fn_of Try.func12 rfl (by kernel_rfl) rfl ?_
  all_goals repeat' (first | (with_reducible rfl) | ((conv => whnf); first | exact trivial | (with_reducible rfl) | exact (rfl : (0 : Int) = ((0 : Nat) : Int)) | exact w64_nat arith | refine bcase_T (by first | with_reducible rfl | decide) ?_ | refine bcase_F (by first | with_reducible rfl | decide) ?_ | refine bcase_dec (fun _ => ?_) (fun _ => ?_) | refine bcase_not ?_ | refine bcase_intro (fun _ => ?_) (fun _ => ?_) | refine ⟨(by with_reducible rfl), ?_⟩ | refine ⟨congrArg vi ?_, ?_⟩ | refine ⟨congrArg vb ?_, ?_⟩ | refine ⟨rfl, ?_⟩ | refine ⟨(by kernel_rfl : drawOK _ = true), ?_⟩ | refine Or.inl ?_ | refine ⟨⟨congrArg (T.int _) ?_, rfl⟩, ?_⟩ | refine ⟨⟨congrArg T.bool ?_, rfl⟩, ?_⟩ | refine ⟨⟨rfl, Nat.le_of_ble_eq_true rfl⟩, ?_⟩ | refine ⟨⟨rfl, rfl⟩, ?_⟩ | refine ⟨⟨rfl, (by decide)⟩, ?_⟩ | refine ⟨⟨rfl, ?_⟩, ?_⟩ | refine ⟨Or.inr rfl, ?_⟩ | refine ⟨Or.inl rfl, ?_⟩ | refine ⟨⟨⟨rfl, rfl, rfl⟩, ?_⟩, ?_⟩ | refine ⟨_, _, rfl, row_get _ _ arith, rfl, ?_⟩ | refine ⟨Or.inr (by repeat (first | exact trivial | refine ⟨rfl, ?_⟩)), ?_⟩ | refine ⟨(?_ : _ = ([] : List (List T))), ?_⟩ | fail))
  conv => whnf
  refine ⟨Nat, fun i => i ≤ ss.length, fun i => ⟨[(0, vi m), (2, vl (ps.map DDatabase.e)), (3, vl (rs.map DReceipt.e)), (9, .c (.ref 0)), (13, vl (ss.map DServer.e)), (14, vi ss.length), (15, vi i)], [(0, .row true true 1 ((audits m ss ps rs i).map eI))], 1⟩, fun i => ss.length - i, 0, Nat.zero_le _, sub_at [(0, 9)] rfl rfl rfl ?_ ?_, fun i (hi : i ≤ ss.length) => ?_⟩
  all_goals repeat' (first | (with_reducible rfl) | ((conv => whnf); first | exact trivial | (with_reducible rfl) | exact (rfl : (0 : Int) = ((0 : Nat) : Int)) | exact w64_nat arith | refine bcase_T (by first | with_reducible rfl | decide) ?_ | refine bcase_F (by first | with_reducible rfl | decide) ?_ | refine bcase_dec (fun _ => ?_) (fun _ => ?_) | refine bcase_not ?_ | refine bcase_intro (fun _ => ?_) (fun _ => ?_) | refine ⟨(by with_reducible rfl), ?_⟩ | refine ⟨congrArg vi ?_, ?_⟩ | refine ⟨congrArg vb ?_, ?_⟩ | refine ⟨rfl, ?_⟩ | refine ⟨(by kernel_rfl : drawOK _ = true), ?_⟩ | refine Or.inl ?_ | refine ⟨⟨congrArg (T.int _) ?_, rfl⟩, ?_⟩ | refine ⟨⟨congrArg T.bool ?_, rfl⟩, ?_⟩ | refine ⟨⟨rfl, Nat.le_of_ble_eq_true rfl⟩, ?_⟩ | refine ⟨⟨rfl, rfl⟩, ?_⟩ | refine ⟨⟨rfl, (by decide)⟩, ?_⟩ | refine ⟨⟨rfl, ?_⟩, ?_⟩ | refine ⟨Or.inr rfl, ?_⟩ | refine ⟨Or.inl rfl, ?_⟩ | refine ⟨⟨⟨rfl, rfl, rfl⟩, ?_⟩, ?_⟩ | refine ⟨_, _, rfl, row_get _ _ arith, rfl, ?_⟩ | refine ⟨Or.inr (by repeat (first | exact trivial | refine ⟨rfl, ?_⟩)), ?_⟩ | refine ⟨(?_ : _ = ([] : List (List T))), ?_⟩ | refine ⟨_, c_ServerKey _ _, ?_⟩ | refine ⟨_, c_AuditServer (servKey m (ss[i]'(by omega)).Id) (ss[i]'(by omega)) (ps[i]'(by omega)) rs (h.2 _ (List.getElem_mem _)) (hp.2 _ (List.getElem_mem _)) hr, ?_⟩ | refine ⟨i, _, rfl, row_get _ _ (by omega), rfl, ?_⟩ | (have hlr := hal i; refine ⟨true, fun _ => (by simp [isScal]), ⟨rfl, rfl⟩, ⟨bnd, bnd⟩, ?_⟩) | refine ⟨i + 1, ⟨arith, arith⟩, sub_at [(0, 9)] rfl rfl rfl ?_ ?_⟩ | fail))
  all_goals first
    | (rw [hm]; done)
    | (rw [audits_T (by omega) (badAt_out (by omega) (by omega)), List.map_append]; rfl)
    | (rw [audits_T (by omega) (by rw [badAt_in (by omega) (by omega)]; simp_all; done), List.map_append]; rfl)
    | (rw [audits_F (by rw [badAt_in (by omega) (by omega)]; simp_all; done)]; done)
    | (have e : i = ss.length := (by omega); subst e; rfl)
    | rfl
    | skip
end Go.Proofs.Ytpipfobdfcnghaa
