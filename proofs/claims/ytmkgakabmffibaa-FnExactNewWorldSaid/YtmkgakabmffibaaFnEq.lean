/-
  Contracts: equality of servers and of worlds.
  Conditions: none.
-/
import Derived.Test.YtmkgakabmffibaaFnS2
import Derived.Test.YtmkgakabmffibaaFnE
namespace Go.Proofs.Ytmkgakabmffibaa
set_option maxHeartbeats 4000000
set_option maxRecDepth 20000
open Go.Vm Go.RowKit
attribute [local irreducible] FnAt MutAt InAt

theorem c_EqualI (xs ys : List Int) (hx : xs.length ≤ 1099511627776) : FnAt Try.prog 131 [.one (L eI xs), .one (L eI ys)] [.one (.s (.bool (xs == ys)))] := by
  rw [← eqL_beq]
  refine fn_of Try.func131 rfl (by kernel_rfl) rfl ?_
  all_goals repeat' (first
    | (with_reducible rfl)
    | (conv => whnf
       first
         | exact trivial
         | (with_reducible rfl)
         | exact (rfl : (0 : Int) = ((0 : Nat) : Int))
         | exact w64_nat arith
         | refine bcase_T (by first | with_reducible rfl | decide) ?_
         | refine bcase_F (by first | with_reducible rfl | decide) ?_
         | refine bcase_dec (fun _ => ?_) (fun _ => ?_)
         | refine bcase_not ?_
         | refine bcase_intro (fun _ => ?_) (fun _ => ?_)
         | refine ⟨(by with_reducible rfl), ?_⟩
         | refine ⟨congrArg vi ?_, ?_⟩
         | refine ⟨congrArg vb ?_, ?_⟩
         | refine ⟨rfl, ?_⟩
         | refine ⟨(by kernel_rfl : drawOK _ = true), ?_⟩
         | refine Or.inl ?_
         | refine ⟨⟨congrArg (T.int _) ?_, rfl⟩, ?_⟩
         | refine ⟨⟨congrArg T.bool ?_, rfl⟩, ?_⟩
         | refine ⟨⟨rfl, Nat.le_of_ble_eq_true rfl⟩, ?_⟩
         | refine ⟨⟨rfl, rfl⟩, ?_⟩
         | refine ⟨⟨rfl, (by decide)⟩, ?_⟩
         | refine ⟨⟨rfl, ?_⟩, ?_⟩
         | refine ⟨Or.inr rfl, ?_⟩
         | refine ⟨Or.inl rfl, ?_⟩
         | refine ⟨⟨⟨rfl, rfl, rfl⟩, ?_⟩, ?_⟩
         | refine ⟨_, _, rfl, row_get _ _ arith, rfl, ?_⟩
         | refine ⟨Or.inr (by repeat (first | exact trivial | refine ⟨rfl, ?_⟩)), ?_⟩
         | refine ⟨(?_ : _ = ([] : List (List T))), ?_⟩
         | fail))
  rotate_left 1
  · rw [eqL_ne (by simp only [List.length_map] at *; omega)]
  conv => whnf
  have hl : xs.length = ys.length := by simp only [List.length_map] at *; omega
  refine ⟨Nat, fun i => i ≤ xs.length ∧ eqL (fun x y => x == y) xs ys = eqL (fun x y => x == y) (xs.drop i) (ys.drop i), fun i => ⟨[(0, vl (xs.map eI)), (1, vl (ys.map eI)), (12, vi xs.length), (13, vi i)], [], 0⟩, fun i => xs.length - i, 0, ⟨Nat.zero_le _, rfl⟩, ⟨[], rfl, rfl, rfl, ?_, ?_⟩, fun i hi => ?_⟩
  all_goals repeat' (first
    | (with_reducible rfl)
    | (conv => whnf
       first
         | exact trivial
         | (with_reducible rfl)
         | exact (rfl : (0 : Int) = ((0 : Nat) : Int))
         | exact w64_nat arith
         | refine bcase_T (by first | with_reducible rfl | decide) ?_
         | refine bcase_F (by first | with_reducible rfl | decide) ?_
         | refine bcase_dec (fun _ => ?_) (fun _ => ?_)
         | refine bcase_not ?_
         | refine bcase_intro (fun _ => ?_) (fun _ => ?_)
         | refine ⟨(by with_reducible rfl), ?_⟩
         | refine ⟨congrArg vi ?_, ?_⟩
         | refine ⟨congrArg vb ?_, ?_⟩
         | refine ⟨rfl, ?_⟩
         | refine ⟨(by kernel_rfl : drawOK _ = true), ?_⟩
         | refine Or.inl ?_
         | refine ⟨⟨congrArg (T.int _) ?_, rfl⟩, ?_⟩
         | refine ⟨⟨congrArg T.bool ?_, rfl⟩, ?_⟩
         | refine ⟨⟨rfl, Nat.le_of_ble_eq_true rfl⟩, ?_⟩
         | refine ⟨⟨rfl, rfl⟩, ?_⟩
         | refine ⟨⟨rfl, (by decide)⟩, ?_⟩
         | refine ⟨⟨rfl, ?_⟩, ?_⟩
         | refine ⟨Or.inr rfl, ?_⟩
         | refine ⟨Or.inl rfl, ?_⟩
         | refine ⟨⟨⟨rfl, rfl, rfl⟩, ?_⟩, ?_⟩
         | refine ⟨_, _, rfl, row_get _ _ arith, rfl, ?_⟩
         | refine ⟨Or.inr (by repeat (first | exact trivial | refine ⟨rfl, ?_⟩)), ?_⟩
         | refine ⟨(?_ : _ = ([] : List (List T))), ?_⟩
         | refine ⟨i + 1, ⟨⟨arith, ?_⟩, arith⟩, ⟨[], rfl, rfl, rfl, ?_, ?_⟩⟩
         | fail))
  all_goals first
    | (rw [List.length_map])
    | (rw [hi.2, eqL_step_T (by omega) (by omega) (by simp_all)]; done)
    | (rw [hi.2, eqL_step_F (by omega) (by omega) (by simp_all)]; done)
    | (rw [hi.2, eqL_end hl (by omega)])
theorem c_sEqualInts (xs ys : List Int) (hx : xs.length ≤ 1099511627776) : FnAt Try.prog 119 [.one (L eI xs), .one (L eI ys)] [.one (.s (.bool (xs == ys)))] := by
  rw [← eqL_beq]
  refine fn_of Try.func119 rfl (by kernel_rfl) rfl ?_
  all_goals repeat' (first
    | (with_reducible rfl)
    | (conv => whnf
       first
         | exact trivial
         | (with_reducible rfl)
         | exact (rfl : (0 : Int) = ((0 : Nat) : Int))
         | exact w64_nat arith
         | refine bcase_T (by first | with_reducible rfl | decide) ?_
         | refine bcase_F (by first | with_reducible rfl | decide) ?_
         | refine bcase_dec (fun _ => ?_) (fun _ => ?_)
         | refine bcase_not ?_
         | refine bcase_intro (fun _ => ?_) (fun _ => ?_)
         | refine ⟨(by with_reducible rfl), ?_⟩
         | refine ⟨congrArg vi ?_, ?_⟩
         | refine ⟨congrArg vb ?_, ?_⟩
         | refine ⟨rfl, ?_⟩
         | refine ⟨(by kernel_rfl : drawOK _ = true), ?_⟩
         | refine Or.inl ?_
         | refine ⟨⟨congrArg (T.int _) ?_, rfl⟩, ?_⟩
         | refine ⟨⟨congrArg T.bool ?_, rfl⟩, ?_⟩
         | refine ⟨⟨rfl, Nat.le_of_ble_eq_true rfl⟩, ?_⟩
         | refine ⟨⟨rfl, rfl⟩, ?_⟩
         | refine ⟨⟨rfl, (by decide)⟩, ?_⟩
         | refine ⟨⟨rfl, ?_⟩, ?_⟩
         | refine ⟨Or.inr rfl, ?_⟩
         | refine ⟨Or.inl rfl, ?_⟩
         | refine ⟨⟨⟨rfl, rfl, rfl⟩, ?_⟩, ?_⟩
         | refine ⟨_, _, rfl, row_get _ _ arith, rfl, ?_⟩
         | refine ⟨Or.inr (by repeat (first | exact trivial | refine ⟨rfl, ?_⟩)), ?_⟩
         | refine ⟨(?_ : _ = ([] : List (List T))), ?_⟩
         | fail))
  rotate_left 1
  · rw [eqL_ne (by simp only [List.length_map] at *; omega)]
  conv => whnf
  have hl : xs.length = ys.length := by simp only [List.length_map] at *; omega
  refine ⟨Nat, fun i => i ≤ xs.length ∧ eqL (fun x y => x == y) xs ys = eqL (fun x y => x == y) (xs.drop i) (ys.drop i), fun i => ⟨[(0, vl (xs.map eI)), (1, vl (ys.map eI)), (5, vi i)], [], 0⟩, fun i => xs.length - i, 0, ⟨Nat.zero_le _, rfl⟩, ⟨[], rfl, rfl, rfl, ?_, ?_⟩, fun i hi => ?_⟩
  all_goals repeat' (first
    | (with_reducible rfl)
    | (conv => whnf
       first
         | exact trivial
         | (with_reducible rfl)
         | exact (rfl : (0 : Int) = ((0 : Nat) : Int))
         | exact w64_nat arith
         | refine bcase_T (by first | with_reducible rfl | decide) ?_
         | refine bcase_F (by first | with_reducible rfl | decide) ?_
         | refine bcase_dec (fun _ => ?_) (fun _ => ?_)
         | refine bcase_not ?_
         | refine bcase_intro (fun _ => ?_) (fun _ => ?_)
         | refine ⟨(by with_reducible rfl), ?_⟩
         | refine ⟨congrArg vi ?_, ?_⟩
         | refine ⟨congrArg vb ?_, ?_⟩
         | refine ⟨rfl, ?_⟩
         | refine ⟨(by kernel_rfl : drawOK _ = true), ?_⟩
         | refine Or.inl ?_
         | refine ⟨⟨congrArg (T.int _) ?_, rfl⟩, ?_⟩
         | refine ⟨⟨congrArg T.bool ?_, rfl⟩, ?_⟩
         | refine ⟨⟨rfl, Nat.le_of_ble_eq_true rfl⟩, ?_⟩
         | refine ⟨⟨rfl, rfl⟩, ?_⟩
         | refine ⟨⟨rfl, (by decide)⟩, ?_⟩
         | refine ⟨⟨rfl, ?_⟩, ?_⟩
         | refine ⟨Or.inr rfl, ?_⟩
         | refine ⟨Or.inl rfl, ?_⟩
         | refine ⟨⟨⟨rfl, rfl, rfl⟩, ?_⟩, ?_⟩
         | refine ⟨_, _, rfl, row_get _ _ arith, rfl, ?_⟩
         | refine ⟨Or.inr (by repeat (first | exact trivial | refine ⟨rfl, ?_⟩)), ?_⟩
         | refine ⟨(?_ : _ = ([] : List (List T))), ?_⟩
         | refine ⟨_, _, rfl, row_get _ _ (by have := lt_map (by assumption); omega), rfl, ?_⟩
         | refine ⟨i + 1, ⟨⟨arith, ?_⟩, arith⟩, ⟨[], rfl, rfl, rfl, ?_, ?_⟩⟩
         | fail))
  all_goals first
    | (have h0 := lt_map (by assumption); rw [hi.2, eqL_step_T h0 (by omega) (by simp_all)]; done)
    | (have h0 := lt_map (by assumption); rw [hi.2, eqL_step_F h0 (by omega) (by simp_all)]; done)
    | (rw [hi.2, eqL_end hl (ge_map (by assumption))])
def shareEq (x y : DReceivedShare) : Bool := decide (x.Client = y.Client) && (x.Share.Rows == y.Share.Rows)
def servEq (a b : DServer) : Bool := decide (a.Id = b.Id) && decide (a.Rows = b.Rows) && decide (a.Round = b.Round) && decide (a.Behavior = b.Behavior) && eqL shareEq a.Received b.Received
theorem c_shareEq (x y : DReceivedShare) (h : bigB x.Share.Rows) : FnAt Try.prog 214 [.agg (DReceivedShare.e x), .agg (DReceivedShare.e y)] [.one (.s (.bool (shareEq x y)))] := by
  refine fn_of Try.func214 rfl (by kernel_rfl) rfl ?_
  all_goals repeat' (first
    | (with_reducible rfl)
    | (conv => whnf
       first
         | exact trivial
         | (with_reducible rfl)
         | exact (rfl : (0 : Int) = ((0 : Nat) : Int))
         | exact w64_nat arith
         | refine bcase_T (by first | with_reducible rfl | decide) ?_
         | refine bcase_F (by first | with_reducible rfl | decide) ?_
         | refine bcase_dec (fun _ => ?_) (fun _ => ?_)
         | refine bcase_not ?_
         | refine bcase_intro (fun _ => ?_) (fun _ => ?_)
         | refine ⟨(by with_reducible rfl), ?_⟩
         | refine ⟨congrArg vi ?_, ?_⟩
         | refine ⟨congrArg vb ?_, ?_⟩
         | refine ⟨rfl, ?_⟩
         | refine ⟨(by kernel_rfl : drawOK _ = true), ?_⟩
         | refine Or.inl ?_
         | refine ⟨⟨congrArg (T.int _) ?_, rfl⟩, ?_⟩
         | refine ⟨⟨congrArg T.bool ?_, rfl⟩, ?_⟩
         | refine ⟨⟨rfl, Nat.le_of_ble_eq_true rfl⟩, ?_⟩
         | refine ⟨⟨rfl, rfl⟩, ?_⟩
         | refine ⟨⟨rfl, (by decide)⟩, ?_⟩
         | refine ⟨⟨rfl, ?_⟩, ?_⟩
         | refine ⟨Or.inr rfl, ?_⟩
         | refine ⟨Or.inl rfl, ?_⟩
         | refine ⟨⟨⟨rfl, rfl, rfl⟩, ?_⟩, ?_⟩
         | refine ⟨_, _, rfl, row_get _ _ arith, rfl, ?_⟩
         | refine ⟨Or.inr (by repeat (first | exact trivial | refine ⟨rfl, ?_⟩)), ?_⟩
         | refine ⟨(?_ : _ = ([] : List (List T))), ?_⟩
         | refine ⟨_, c_EqualDatabases x.Share y.Share h, ?_⟩
         | fail))
  all_goals (simp_all [shareEq])
theorem c_EqualFuncRS (xs ys : List DReceivedShare) (hx : xs.length ≤ 1099511627776) (h : ∀ r ∈ xs, bigB r.Share.Rows) : FnAt Try.prog 213 [.one (L DReceivedShare.e xs), .one (L DReceivedShare.e ys), .one (.fn 214 [])] [.one (.s (.bool (eqL shareEq xs ys)))] := by
  refine fn_of Try.func213 rfl (by kernel_rfl) rfl ?_
  all_goals repeat' (first
    | (with_reducible rfl)
    | (conv => whnf
       first
         | exact trivial
         | (with_reducible rfl)
         | exact (rfl : (0 : Int) = ((0 : Nat) : Int))
         | exact w64_nat arith
         | refine bcase_T (by first | with_reducible rfl | decide) ?_
         | refine bcase_F (by first | with_reducible rfl | decide) ?_
         | refine bcase_dec (fun _ => ?_) (fun _ => ?_)
         | refine bcase_not ?_
         | refine bcase_intro (fun _ => ?_) (fun _ => ?_)
         | refine ⟨(by with_reducible rfl), ?_⟩
         | refine ⟨congrArg vi ?_, ?_⟩
         | refine ⟨congrArg vb ?_, ?_⟩
         | refine ⟨rfl, ?_⟩
         | refine ⟨(by kernel_rfl : drawOK _ = true), ?_⟩
         | refine Or.inl ?_
         | refine ⟨⟨congrArg (T.int _) ?_, rfl⟩, ?_⟩
         | refine ⟨⟨congrArg T.bool ?_, rfl⟩, ?_⟩
         | refine ⟨⟨rfl, Nat.le_of_ble_eq_true rfl⟩, ?_⟩
         | refine ⟨⟨rfl, rfl⟩, ?_⟩
         | refine ⟨⟨rfl, (by decide)⟩, ?_⟩
         | refine ⟨⟨rfl, ?_⟩, ?_⟩
         | refine ⟨Or.inr rfl, ?_⟩
         | refine ⟨Or.inl rfl, ?_⟩
         | refine ⟨⟨⟨rfl, rfl, rfl⟩, ?_⟩, ?_⟩
         | refine ⟨_, _, rfl, row_get _ _ arith, rfl, ?_⟩
         | refine ⟨Or.inr (by repeat (first | exact trivial | refine ⟨rfl, ?_⟩)), ?_⟩
         | refine ⟨(?_ : _ = ([] : List (List T))), ?_⟩
         | fail))
  rotate_left 1
  · rw [eqL_ne (by simp only [List.length_map] at *; omega)]
  conv => whnf
  have hl : xs.length = ys.length := by simp only [List.length_map] at *; omega
  refine ⟨Nat, fun i => i ≤ xs.length ∧ eqL shareEq xs ys = eqL shareEq (xs.drop i) (ys.drop i), fun i => ⟨[(1, vl (ys.map DReceivedShare.e)), (2, .c (.t (.fn 214 []))), (15, vl (xs.map DReceivedShare.e)), (16, vi xs.length), (17, vi i)], [], 0⟩, fun i => xs.length - i, 0, ⟨Nat.zero_le _, rfl⟩, ⟨[], rfl, rfl, rfl, ?_, ?_⟩, fun i hi => ?_⟩
  all_goals repeat' (first
    | (with_reducible rfl)
    | (conv => whnf
       first
         | exact trivial
         | (with_reducible rfl)
         | exact (rfl : (0 : Int) = ((0 : Nat) : Int))
         | exact w64_nat arith
         | refine bcase_T (by first | with_reducible rfl | decide) ?_
         | refine bcase_F (by first | with_reducible rfl | decide) ?_
         | refine bcase_dec (fun _ => ?_) (fun _ => ?_)
         | refine bcase_not ?_
         | refine bcase_intro (fun _ => ?_) (fun _ => ?_)
         | refine ⟨(by with_reducible rfl), ?_⟩
         | refine ⟨congrArg vi ?_, ?_⟩
         | refine ⟨congrArg vb ?_, ?_⟩
         | refine ⟨rfl, ?_⟩
         | refine ⟨(by kernel_rfl : drawOK _ = true), ?_⟩
         | refine Or.inl ?_
         | refine ⟨⟨congrArg (T.int _) ?_, rfl⟩, ?_⟩
         | refine ⟨⟨congrArg T.bool ?_, rfl⟩, ?_⟩
         | refine ⟨⟨rfl, Nat.le_of_ble_eq_true rfl⟩, ?_⟩
         | refine ⟨⟨rfl, rfl⟩, ?_⟩
         | refine ⟨⟨rfl, (by decide)⟩, ?_⟩
         | refine ⟨⟨rfl, ?_⟩, ?_⟩
         | refine ⟨Or.inr rfl, ?_⟩
         | refine ⟨Or.inl rfl, ?_⟩
         | refine ⟨⟨⟨rfl, rfl, rfl⟩, ?_⟩, ?_⟩
         | refine ⟨_, _, rfl, row_get _ _ arith, rfl, ?_⟩
         | refine ⟨Or.inr (by repeat (first | exact trivial | refine ⟨rfl, ?_⟩)), ?_⟩
         | refine ⟨(?_ : _ = ([] : List (List T))), ?_⟩
         | refine ⟨_, c_shareEq xs[i] ys[i] (h _ (List.getElem_mem _)), ?_⟩
         | refine ⟨i + 1, ⟨⟨arith, ?_⟩, arith⟩, ⟨[], rfl, rfl, rfl, ?_, ?_⟩⟩
         | fail))
  all_goals first
    | (rw [List.length_map]; done)
    | (rw [hi.2, eqL_step_T (by omega) (by omega) (by assumption)]; done)
    | (rw [hi.2, eqL_step_F (by omega) (by omega) (by assumption)]; done)
    | (rw [hi.2, eqL_end hl (by omega)]; done)
theorem c_EqualServers (a b : DServer) (h : bigS a) : FnAt Try.prog 127 [.agg (DServer.e a), .agg (DServer.e b)] [.one (.s (.bool (servEq a b)))] := by
  refine fn_of Try.func127 rfl (by kernel_rfl) rfl ?_
  all_goals repeat' (first
    | (with_reducible rfl)
    | (conv => whnf
       first
         | exact trivial
         | (with_reducible rfl)
         | exact (rfl : (0 : Int) = ((0 : Nat) : Int))
         | exact w64_nat arith
         | refine bcase_T (by first | with_reducible rfl | decide) ?_
         | refine bcase_F (by first | with_reducible rfl | decide) ?_
         | refine bcase_dec (fun _ => ?_) (fun _ => ?_)
         | refine bcase_not ?_
         | refine bcase_intro (fun _ => ?_) (fun _ => ?_)
         | refine ⟨(by with_reducible rfl), ?_⟩
         | refine ⟨congrArg vi ?_, ?_⟩
         | refine ⟨congrArg vb ?_, ?_⟩
         | refine ⟨rfl, ?_⟩
         | refine ⟨(by kernel_rfl : drawOK _ = true), ?_⟩
         | refine Or.inl ?_
         | refine ⟨⟨congrArg (T.int _) ?_, rfl⟩, ?_⟩
         | refine ⟨⟨congrArg T.bool ?_, rfl⟩, ?_⟩
         | refine ⟨⟨rfl, Nat.le_of_ble_eq_true rfl⟩, ?_⟩
         | refine ⟨⟨rfl, rfl⟩, ?_⟩
         | refine ⟨⟨rfl, (by decide)⟩, ?_⟩
         | refine ⟨⟨rfl, ?_⟩, ?_⟩
         | refine ⟨Or.inr rfl, ?_⟩
         | refine ⟨Or.inl rfl, ?_⟩
         | refine ⟨⟨⟨rfl, rfl, rfl⟩, ?_⟩, ?_⟩
         | refine ⟨_, _, rfl, row_get _ _ arith, rfl, ?_⟩
         | refine ⟨Or.inr (by repeat (first | exact trivial | refine ⟨rfl, ?_⟩)), ?_⟩
         | refine ⟨(?_ : _ = ([] : List (List T))), ?_⟩
         | refine ⟨_, c_EqualFuncRS _ _ h.1 h.2, ?_⟩
         | fail))
  all_goals (simp_all [servEq])
theorem c_sEqualServers (a b : DServer) (h : bigS a) : FnAt Try.prog 121 [.agg (DServer.e a), .agg (DServer.e b)] [.one (.s (.bool (servEq a b)))] := by
  have hx := h.1
  have hma := lenm DReceivedShare.e a.Received
  have hmb := lenm DReceivedShare.e b.Received
  refine fn_of Try.func121 rfl (by kernel_rfl) rfl ?_
  all_goals repeat' (first
    | (with_reducible rfl)
    | (conv => whnf
       first
         | exact trivial
         | (with_reducible rfl)
         | exact (rfl : (0 : Int) = ((0 : Nat) : Int))
         | exact w64_nat arith
         | refine bcase_T (by first | with_reducible rfl | decide) ?_
         | refine bcase_F (by first | with_reducible rfl | decide) ?_
         | refine bcase_dec (fun _ => ?_) (fun _ => ?_)
         | refine bcase_not ?_
         | refine bcase_intro (fun _ => ?_) (fun _ => ?_)
         | refine ⟨(by with_reducible rfl), ?_⟩
         | refine ⟨congrArg vi ?_, ?_⟩
         | refine ⟨congrArg vb ?_, ?_⟩
         | refine ⟨rfl, ?_⟩
         | refine ⟨(by kernel_rfl : drawOK _ = true), ?_⟩
         | refine Or.inl ?_
         | refine ⟨⟨congrArg (T.int _) ?_, rfl⟩, ?_⟩
         | refine ⟨⟨congrArg T.bool ?_, rfl⟩, ?_⟩
         | refine ⟨⟨rfl, Nat.le_of_ble_eq_true rfl⟩, ?_⟩
         | refine ⟨⟨rfl, rfl⟩, ?_⟩
         | refine ⟨⟨rfl, (by decide)⟩, ?_⟩
         | refine ⟨⟨rfl, ?_⟩, ?_⟩
         | refine ⟨Or.inr rfl, ?_⟩
         | refine ⟨Or.inl rfl, ?_⟩
         | refine ⟨⟨⟨rfl, rfl, rfl⟩, ?_⟩, ?_⟩
         | refine ⟨_, _, rfl, row_get _ _ arith, rfl, ?_⟩
         | refine ⟨Or.inr (by repeat (first | exact trivial | refine ⟨rfl, ?_⟩)), ?_⟩
         | refine ⟨(?_ : _ = ([] : List (List T))), ?_⟩
         | fail))
  all_goals first
    | (unfold servEq; rw [eqL_ne (by simp only [List.length_map] at *; omega), Bool.and_false]; done)
    | (simp_all [servEq]; done)
    | skip
  conv => whnf
  have hl : a.Received.length = b.Received.length := by simp only [List.length_map] at *; omega
  have hr : servEq a b = eqL shareEq a.Received b.Received := by simp_all [servEq]
  refine ⟨Nat, fun i => i ≤ a.Received.length ∧ servEq a b = eqL shareEq (a.Received.drop i) (b.Received.drop i), fun i => ⟨[(2, .ptr 0 0), (3, .ptr 1 0), (5, vi i)], [(0, .box [.t (I a.Id), .t (I a.Rows), .t (I a.Round), .t (L DReceivedShare.e a.Received), .t (I a.Behavior)]), (1, .box [.t (I b.Id), .t (I b.Rows), .t (I b.Round), .t (L DReceivedShare.e b.Received), .t (I b.Behavior)])], 2⟩, fun i => a.Received.length - i, 0, ⟨Nat.zero_le _, hr⟩, sub_at [(0, 2), (1, 3)] rfl rfl rfl ?_ ?_, fun i hi => ?_⟩
  all_goals repeat' (first
    | (with_reducible rfl)
    | (conv => whnf
       first
         | exact trivial
         | (with_reducible rfl)
         | exact (rfl : (0 : Int) = ((0 : Nat) : Int))
         | exact w64_nat arith
         | refine bcase_T (by first | with_reducible rfl | decide) ?_
         | refine bcase_F (by first | with_reducible rfl | decide) ?_
         | refine bcase_dec (fun _ => ?_) (fun _ => ?_)
         | refine bcase_not ?_
         | refine bcase_intro (fun _ => ?_) (fun _ => ?_)
         | refine ⟨(by with_reducible rfl), ?_⟩
         | refine ⟨congrArg vi ?_, ?_⟩
         | refine ⟨congrArg vb ?_, ?_⟩
         | refine ⟨rfl, ?_⟩
         | refine ⟨(by kernel_rfl : drawOK _ = true), ?_⟩
         | refine Or.inl ?_
         | refine ⟨⟨congrArg (T.int _) ?_, rfl⟩, ?_⟩
         | refine ⟨⟨congrArg T.bool ?_, rfl⟩, ?_⟩
         | refine ⟨⟨rfl, Nat.le_of_ble_eq_true rfl⟩, ?_⟩
         | refine ⟨⟨rfl, rfl⟩, ?_⟩
         | refine ⟨⟨rfl, (by decide)⟩, ?_⟩
         | refine ⟨⟨rfl, ?_⟩, ?_⟩
         | refine ⟨Or.inr rfl, ?_⟩
         | refine ⟨Or.inl rfl, ?_⟩
         | refine ⟨⟨⟨rfl, rfl, rfl⟩, ?_⟩, ?_⟩
         | refine ⟨_, _, rfl, row_get _ _ arith, rfl, ?_⟩
         | refine ⟨Or.inr (by repeat (first | exact trivial | refine ⟨rfl, ?_⟩)), ?_⟩
         | refine ⟨(?_ : _ = ([] : List (List T))), ?_⟩
         | refine ⟨i, _, rfl, row_get _ _ (by omega), rfl, ?_⟩
         | refine ⟨_, c_sEqualDatabases (a.Received[i]'(by omega)).Share (b.Received[i]'(by omega)).Share (h.2 _ (List.getElem_mem _)), ?_⟩
         | refine ⟨i + 1, ⟨⟨arith, ?_⟩, arith⟩, sub_at [(0, 2), (1, 3)] rfl rfl rfl ?_ ?_⟩
         | fail))
  all_goals first
    | (rw [hi.2, eqL_end hl (by omega)]; done)
    | (rw [hi.2, eqL_step_T (by omega) (by omega) (by simp only [shareEq]; simp_all)]; done)
    | (rw [hi.2, eqL_step_F (by omega) (by omega) (by simp only [shareEq]; simp_all)]; done)
theorem c_EqualFuncSv (xs ys : List DServer) (hs : bigSs xs) : FnAt Try.prog 126 [.one (L DServer.e xs), .one (L DServer.e ys), .one (.fn 127 [])] [.one (.s (.bool (eqL servEq xs ys)))] := by
  have hx := hs.1
  refine fn_of Try.func126 rfl (by kernel_rfl) rfl ?_
  all_goals repeat' (first
    | (with_reducible rfl)
    | (conv => whnf
       first
         | exact trivial
         | (with_reducible rfl)
         | exact (rfl : (0 : Int) = ((0 : Nat) : Int))
         | exact w64_nat arith
         | refine bcase_T (by first | with_reducible rfl | decide) ?_
         | refine bcase_F (by first | with_reducible rfl | decide) ?_
         | refine bcase_dec (fun _ => ?_) (fun _ => ?_)
         | refine bcase_not ?_
         | refine bcase_intro (fun _ => ?_) (fun _ => ?_)
         | refine ⟨(by with_reducible rfl), ?_⟩
         | refine ⟨congrArg vi ?_, ?_⟩
         | refine ⟨congrArg vb ?_, ?_⟩
         | refine ⟨rfl, ?_⟩
         | refine ⟨(by kernel_rfl : drawOK _ = true), ?_⟩
         | refine Or.inl ?_
         | refine ⟨⟨congrArg (T.int _) ?_, rfl⟩, ?_⟩
         | refine ⟨⟨congrArg T.bool ?_, rfl⟩, ?_⟩
         | refine ⟨⟨rfl, Nat.le_of_ble_eq_true rfl⟩, ?_⟩
         | refine ⟨⟨rfl, rfl⟩, ?_⟩
         | refine ⟨⟨rfl, (by decide)⟩, ?_⟩
         | refine ⟨⟨rfl, ?_⟩, ?_⟩
         | refine ⟨Or.inr rfl, ?_⟩
         | refine ⟨Or.inl rfl, ?_⟩
         | refine ⟨⟨⟨rfl, rfl, rfl⟩, ?_⟩, ?_⟩
         | refine ⟨_, _, rfl, row_get _ _ arith, rfl, ?_⟩
         | refine ⟨Or.inr (by repeat (first | exact trivial | refine ⟨rfl, ?_⟩)), ?_⟩
         | refine ⟨(?_ : _ = ([] : List (List T))), ?_⟩
         | fail))
  rotate_left 1
  · rw [eqL_ne (by simp only [List.length_map] at *; omega)]
  conv => whnf
  have hl : xs.length = ys.length := by simp only [List.length_map] at *; omega
  refine ⟨Nat, fun i => i ≤ xs.length ∧ eqL servEq xs ys = eqL servEq (xs.drop i) (ys.drop i), fun i => ⟨[(1, vl (ys.map DServer.e)), (2, .c (.t (.fn 127 []))), (15, vl (xs.map DServer.e)), (16, vi xs.length), (17, vi i)], [], 0⟩, fun i => xs.length - i, 0, ⟨Nat.zero_le _, rfl⟩, ⟨[], rfl, rfl, rfl, ?_, ?_⟩, fun i hi => ?_⟩
  all_goals repeat' (first
    | (with_reducible rfl)
    | (conv => whnf
       first
         | exact trivial
         | (with_reducible rfl)
         | exact (rfl : (0 : Int) = ((0 : Nat) : Int))
         | exact w64_nat arith
         | refine bcase_T (by first | with_reducible rfl | decide) ?_
         | refine bcase_F (by first | with_reducible rfl | decide) ?_
         | refine bcase_dec (fun _ => ?_) (fun _ => ?_)
         | refine bcase_not ?_
         | refine bcase_intro (fun _ => ?_) (fun _ => ?_)
         | refine ⟨(by with_reducible rfl), ?_⟩
         | refine ⟨congrArg vi ?_, ?_⟩
         | refine ⟨congrArg vb ?_, ?_⟩
         | refine ⟨rfl, ?_⟩
         | refine ⟨(by kernel_rfl : drawOK _ = true), ?_⟩
         | refine Or.inl ?_
         | refine ⟨⟨congrArg (T.int _) ?_, rfl⟩, ?_⟩
         | refine ⟨⟨congrArg T.bool ?_, rfl⟩, ?_⟩
         | refine ⟨⟨rfl, Nat.le_of_ble_eq_true rfl⟩, ?_⟩
         | refine ⟨⟨rfl, rfl⟩, ?_⟩
         | refine ⟨⟨rfl, (by decide)⟩, ?_⟩
         | refine ⟨⟨rfl, ?_⟩, ?_⟩
         | refine ⟨Or.inr rfl, ?_⟩
         | refine ⟨Or.inl rfl, ?_⟩
         | refine ⟨⟨⟨rfl, rfl, rfl⟩, ?_⟩, ?_⟩
         | refine ⟨_, _, rfl, row_get _ _ arith, rfl, ?_⟩
         | refine ⟨Or.inr (by repeat (first | exact trivial | refine ⟨rfl, ?_⟩)), ?_⟩
         | refine ⟨(?_ : _ = ([] : List (List T))), ?_⟩
         | refine ⟨_, c_EqualServers xs[i] ys[i] (hs.2 _ (List.getElem_mem _)), ?_⟩
         | refine ⟨i + 1, ⟨⟨arith, ?_⟩, arith⟩, ⟨[], rfl, rfl, rfl, ?_, ?_⟩⟩
         | fail))
  all_goals first
    | (rw [List.length_map]; done)
    | (rw [hi.2, eqL_step_T (by omega) (by omega) (by assumption)]; done)
    | (rw [hi.2, eqL_step_F (by omega) (by omega) (by assumption)]; done)
    | (rw [hi.2, eqL_end hl (by omega)]; done)
def bigDs (l : List DDevice) : Prop := l.length ≤ 1099511627776 ∧ ∀ d ∈ l, bigD d
def bigW (w : DWorld) : Prop := bigSs w.Servers ∧ bigDs w.Devices ∧ bigR w.Archive.Rounds ∧ w.Replaced.length ≤ 1099511627776
def worldHead (a b : DWorld) : Bool := decide (a.Rows = b.Rows) && archEq a.Archive b.Archive && decide (a.Master = b.Master) && decide (a.Seed = b.Seed) && decide (a.Round = b.Round) && (a.Replaced == b.Replaced) && decide (a.Cancelled = b.Cancelled)
def worldEq (a b : DWorld) : Bool := worldHead a b && eqL servEq a.Servers b.Servers && eqL devEq a.Devices b.Devices
theorem c_EqualFuncDv (xs ys : List DDevice) (hs : bigDs xs) : FnAt Try.prog 128 [.one (L DDevice.e xs), .one (L DDevice.e ys), .one (.fn 129 [])] [.one (.s (.bool (eqL devEq xs ys)))] := by
  have hx := hs.1
  refine fn_of Try.func128 rfl (by kernel_rfl) rfl ?_
  all_goals repeat' (first
    | (with_reducible rfl)
    | (conv => whnf
       first
         | exact trivial
         | (with_reducible rfl)
         | exact (rfl : (0 : Int) = ((0 : Nat) : Int))
         | exact w64_nat arith
         | refine bcase_T (by first | with_reducible rfl | decide) ?_
         | refine bcase_F (by first | with_reducible rfl | decide) ?_
         | refine bcase_dec (fun _ => ?_) (fun _ => ?_)
         | refine bcase_not ?_
         | refine bcase_intro (fun _ => ?_) (fun _ => ?_)
         | refine ⟨(by with_reducible rfl), ?_⟩
         | refine ⟨congrArg vi ?_, ?_⟩
         | refine ⟨congrArg vb ?_, ?_⟩
         | refine ⟨rfl, ?_⟩
         | refine ⟨(by kernel_rfl : drawOK _ = true), ?_⟩
         | refine Or.inl ?_
         | refine ⟨⟨congrArg (T.int _) ?_, rfl⟩, ?_⟩
         | refine ⟨⟨congrArg T.bool ?_, rfl⟩, ?_⟩
         | refine ⟨⟨rfl, Nat.le_of_ble_eq_true rfl⟩, ?_⟩
         | refine ⟨⟨rfl, rfl⟩, ?_⟩
         | refine ⟨⟨rfl, (by decide)⟩, ?_⟩
         | refine ⟨⟨rfl, ?_⟩, ?_⟩
         | refine ⟨Or.inr rfl, ?_⟩
         | refine ⟨Or.inl rfl, ?_⟩
         | refine ⟨⟨⟨rfl, rfl, rfl⟩, ?_⟩, ?_⟩
         | refine ⟨_, _, rfl, row_get _ _ arith, rfl, ?_⟩
         | refine ⟨Or.inr (by repeat (first | exact trivial | refine ⟨rfl, ?_⟩)), ?_⟩
         | refine ⟨(?_ : _ = ([] : List (List T))), ?_⟩
         | fail))
  rotate_left 1
  · rw [eqL_ne (by simp only [List.length_map] at *; omega)]
  conv => whnf
  have hl : xs.length = ys.length := by simp only [List.length_map] at *; omega
  refine ⟨Nat, fun i => i ≤ xs.length ∧ eqL devEq xs ys = eqL devEq (xs.drop i) (ys.drop i), fun i => ⟨[(1, vl (ys.map DDevice.e)), (2, .c (.t (.fn 129 []))), (15, vl (xs.map DDevice.e)), (16, vi xs.length), (17, vi i)], [], 0⟩, fun i => xs.length - i, 0, ⟨Nat.zero_le _, rfl⟩, ⟨[], rfl, rfl, rfl, ?_, ?_⟩, fun i hi => ?_⟩
  all_goals repeat' (first
    | (with_reducible rfl)
    | (conv => whnf
       first
         | exact trivial
         | (with_reducible rfl)
         | exact (rfl : (0 : Int) = ((0 : Nat) : Int))
         | exact w64_nat arith
         | refine bcase_T (by first | with_reducible rfl | decide) ?_
         | refine bcase_F (by first | with_reducible rfl | decide) ?_
         | refine bcase_dec (fun _ => ?_) (fun _ => ?_)
         | refine bcase_not ?_
         | refine bcase_intro (fun _ => ?_) (fun _ => ?_)
         | refine ⟨(by with_reducible rfl), ?_⟩
         | refine ⟨congrArg vi ?_, ?_⟩
         | refine ⟨congrArg vb ?_, ?_⟩
         | refine ⟨rfl, ?_⟩
         | refine ⟨(by kernel_rfl : drawOK _ = true), ?_⟩
         | refine Or.inl ?_
         | refine ⟨⟨congrArg (T.int _) ?_, rfl⟩, ?_⟩
         | refine ⟨⟨congrArg T.bool ?_, rfl⟩, ?_⟩
         | refine ⟨⟨rfl, Nat.le_of_ble_eq_true rfl⟩, ?_⟩
         | refine ⟨⟨rfl, rfl⟩, ?_⟩
         | refine ⟨⟨rfl, (by decide)⟩, ?_⟩
         | refine ⟨⟨rfl, ?_⟩, ?_⟩
         | refine ⟨Or.inr rfl, ?_⟩
         | refine ⟨Or.inl rfl, ?_⟩
         | refine ⟨⟨⟨rfl, rfl, rfl⟩, ?_⟩, ?_⟩
         | refine ⟨_, _, rfl, row_get _ _ arith, rfl, ?_⟩
         | refine ⟨Or.inr (by repeat (first | exact trivial | refine ⟨rfl, ?_⟩)), ?_⟩
         | refine ⟨(?_ : _ = ([] : List (List T))), ?_⟩
         | refine ⟨_, c_EqualDevices xs[i] ys[i] (hs.2 _ (List.getElem_mem _)), ?_⟩
         | refine ⟨i + 1, ⟨⟨arith, ?_⟩, arith⟩, ⟨[], rfl, rfl, rfl, ?_, ?_⟩⟩
         | fail))
  all_goals first
    | (rw [List.length_map]; done)
    | (rw [hi.2, eqL_step_T (by omega) (by omega) (by assumption)]; done)
    | (rw [hi.2, eqL_step_F (by omega) (by omega) (by assumption)]; done)
    | (rw [hi.2, eqL_end hl (by omega)]; done)
theorem c_EqualWorlds (a b : DWorld) (h : bigW a) : FnAt Try.prog 39 [.agg (DWorld.e a), .agg (DWorld.e b)] [.one (.s (.bool (worldEq a b)))] := by
  refine fn_of Try.func39 rfl (by kernel_rfl) rfl ?_
  all_goals repeat' (first
    | (with_reducible rfl)
    | (conv => whnf
       first
         | exact trivial
         | (with_reducible rfl)
         | exact (rfl : (0 : Int) = ((0 : Nat) : Int))
         | exact w64_nat arith
         | refine bcase_T (by first | with_reducible rfl | decide) ?_
         | refine bcase_F (by first | with_reducible rfl | decide) ?_
         | refine bcase_dec (fun _ => ?_) (fun _ => ?_)
         | refine bcase_not ?_
         | refine bcase_intro (fun _ => ?_) (fun _ => ?_)
         | refine ⟨(by with_reducible rfl), ?_⟩
         | refine ⟨congrArg vi ?_, ?_⟩
         | refine ⟨congrArg vb ?_, ?_⟩
         | refine ⟨rfl, ?_⟩
         | refine ⟨(by kernel_rfl : drawOK _ = true), ?_⟩
         | refine Or.inl ?_
         | refine ⟨⟨congrArg (T.int _) ?_, rfl⟩, ?_⟩
         | refine ⟨⟨congrArg T.bool ?_, rfl⟩, ?_⟩
         | refine ⟨⟨rfl, Nat.le_of_ble_eq_true rfl⟩, ?_⟩
         | refine ⟨⟨rfl, rfl⟩, ?_⟩
         | refine ⟨⟨rfl, (by decide)⟩, ?_⟩
         | refine ⟨⟨rfl, ?_⟩, ?_⟩
         | refine ⟨Or.inr rfl, ?_⟩
         | refine ⟨Or.inl rfl, ?_⟩
         | refine ⟨⟨⟨rfl, rfl, rfl⟩, ?_⟩, ?_⟩
         | refine ⟨_, _, rfl, row_get _ _ arith, rfl, ?_⟩
         | refine ⟨Or.inr (by repeat (first | exact trivial | refine ⟨rfl, ?_⟩)), ?_⟩
         | refine ⟨(?_ : _ = ([] : List (List T))), ?_⟩
         | refine ⟨_, c_EqualFuncSv a.Servers b.Servers h.1, ?_⟩
         | refine ⟨_, c_EqualFuncDv a.Devices b.Devices h.2.1, ?_⟩
         | refine ⟨_, c_EqualArchives a.Archive b.Archive h.2.2.1, ?_⟩
         | refine ⟨_, c_EqualI a.Replaced b.Replaced h.2.2.2, ?_⟩
         | fail))
  all_goals first
    | (simp_all [worldEq, worldHead]; done)
    | (simp_all [worldEq, worldHead]; rfl)
theorem c_sEqualWorlds (a b : DWorld) (h : bigW a) : FnAt Try.prog 37 [.agg (DWorld.e a), .agg (DWorld.e b)] [.one (.s (.bool (worldEq a b)))] := by
  have hx := h.1.1
  have hx2 := h.2.1.1
  have hma := lenm DServer.e a.Servers
  have hmb := lenm DServer.e b.Servers
  have hna := lenm DDevice.e a.Devices
  have hnb := lenm DDevice.e b.Devices
  refine fn_of Try.func37 rfl (by kernel_rfl) rfl ?_
  all_goals repeat' (first
    | (with_reducible rfl)
    | (conv => whnf
       first
         | exact trivial
         | (with_reducible rfl)
         | exact (rfl : (0 : Int) = ((0 : Nat) : Int))
         | exact w64_nat arith
         | refine bcase_T (by first | with_reducible rfl | decide) ?_
         | refine bcase_F (by first | with_reducible rfl | decide) ?_
         | refine bcase_dec (fun _ => ?_) (fun _ => ?_)
         | refine bcase_not ?_
         | refine bcase_intro (fun _ => ?_) (fun _ => ?_)
         | refine ⟨(by with_reducible rfl), ?_⟩
         | refine ⟨congrArg vi ?_, ?_⟩
         | refine ⟨congrArg vb ?_, ?_⟩
         | refine ⟨rfl, ?_⟩
         | refine ⟨(by kernel_rfl : drawOK _ = true), ?_⟩
         | refine Or.inl ?_
         | refine ⟨⟨congrArg (T.int _) ?_, rfl⟩, ?_⟩
         | refine ⟨⟨congrArg T.bool ?_, rfl⟩, ?_⟩
         | refine ⟨⟨rfl, Nat.le_of_ble_eq_true rfl⟩, ?_⟩
         | refine ⟨⟨rfl, rfl⟩, ?_⟩
         | refine ⟨⟨rfl, (by decide)⟩, ?_⟩
         | refine ⟨⟨rfl, ?_⟩, ?_⟩
         | refine ⟨Or.inr rfl, ?_⟩
         | refine ⟨Or.inl rfl, ?_⟩
         | refine ⟨⟨⟨rfl, rfl, rfl⟩, ?_⟩, ?_⟩
         | refine ⟨_, _, rfl, row_get _ _ arith, rfl, ?_⟩
         | refine ⟨Or.inr (by repeat (first | exact trivial | refine ⟨rfl, ?_⟩)), ?_⟩
         | refine ⟨(?_ : _ = ([] : List (List T))), ?_⟩
         | refine ⟨_, c_sEqualArchives a.Archive b.Archive h.2.2.1, ?_⟩
         | refine ⟨_, c_sEqualInts a.Replaced b.Replaced h.2.2.2, ?_⟩
         | fail))
  all_goals first
    | (unfold worldEq; rw [eqL_ne (xs := a.Servers) (by omega), Bool.and_false]; rfl)
    | (unfold worldEq; rw [eqL_ne (xs := a.Devices) (by omega), Bool.and_false]; done)
    | (simp_all [worldEq, worldHead]; done)
    | skip
  conv => whnf
  have hl : a.Servers.length = b.Servers.length := by omega
  have hl2 : a.Devices.length = b.Devices.length := by omega
  have hr : worldHead a b = true := by simp_all [worldHead]
  refine ⟨Nat, fun i => i ≤ a.Servers.length ∧ eqL servEq a.Servers b.Servers = eqL servEq (a.Servers.drop i) (b.Servers.drop i), fun i => ⟨[(2, .ptr 0 0), (3, .ptr 1 0), (5, vi i)], [(0, .box ((DWorld.e a).map .t)), (1, .box ((DWorld.e b).map .t))], 2⟩, fun i => a.Servers.length - i, 0, ⟨Nat.zero_le _, rfl⟩, sub_at [(0, 2), (1, 3)] rfl rfl rfl ?_ ?_, fun i hi => ?_⟩
  all_goals repeat' (first
    | (with_reducible rfl)
    | (conv => whnf
       first
         | exact trivial
         | (with_reducible rfl)
         | exact (rfl : (0 : Int) = ((0 : Nat) : Int))
         | exact w64_nat arith
         | refine bcase_T (by first | with_reducible rfl | decide) ?_
         | refine bcase_F (by first | with_reducible rfl | decide) ?_
         | refine bcase_dec (fun _ => ?_) (fun _ => ?_)
         | refine bcase_not ?_
         | refine bcase_intro (fun _ => ?_) (fun _ => ?_)
         | refine ⟨(by with_reducible rfl), ?_⟩
         | refine ⟨congrArg vi ?_, ?_⟩
         | refine ⟨congrArg vb ?_, ?_⟩
         | refine ⟨rfl, ?_⟩
         | refine ⟨(by kernel_rfl : drawOK _ = true), ?_⟩
         | refine Or.inl ?_
         | refine ⟨⟨congrArg (T.int _) ?_, rfl⟩, ?_⟩
         | refine ⟨⟨congrArg T.bool ?_, rfl⟩, ?_⟩
         | refine ⟨⟨rfl, Nat.le_of_ble_eq_true rfl⟩, ?_⟩
         | refine ⟨⟨rfl, rfl⟩, ?_⟩
         | refine ⟨⟨rfl, (by decide)⟩, ?_⟩
         | refine ⟨⟨rfl, ?_⟩, ?_⟩
         | refine ⟨Or.inr rfl, ?_⟩
         | refine ⟨Or.inl rfl, ?_⟩
         | refine ⟨⟨⟨rfl, rfl, rfl⟩, ?_⟩, ?_⟩
         | refine ⟨_, _, rfl, row_get _ _ arith, rfl, ?_⟩
         | refine ⟨Or.inr (by repeat (first | exact trivial | refine ⟨rfl, ?_⟩)), ?_⟩
         | refine ⟨(?_ : _ = ([] : List (List T))), ?_⟩
         | refine ⟨i, _, rfl, row_get _ _ (by omega), rfl, ?_⟩
         | refine ⟨_, c_sEqualServers (a.Servers[i]'(by omega)) (b.Servers[i]'(by omega)) (h.1.2 _ (List.getElem_mem _)), ?_⟩
         | refine ⟨i + 1, ⟨⟨arith, ?_⟩, arith⟩, sub_at [(0, 2), (1, 3)] rfl rfl rfl ?_ ?_⟩
         | fail))
  all_goals first
    | (rw [hi.2, eqL_step_T (by omega) (by omega) (by assumption)]; done)
    | (unfold worldEq; rw [hi.2, eqL_step_F (by omega) (by omega) (by assumption), Bool.and_false]; rfl)
    | skip
  conv => whnf
  have hs : eqL servEq a.Servers b.Servers = true := by rw [hi.2, eqL_end hl (by omega)]
  refine ⟨Nat, fun j => j ≤ a.Devices.length ∧ eqL devEq a.Devices b.Devices = eqL devEq (a.Devices.drop j) (b.Devices.drop j), fun j => ⟨[(2, .ptr 0 0), (3, .ptr 1 0), (6, vi j)], [(0, .box ((DWorld.e a).map .t)), (1, .box ((DWorld.e b).map .t))], 2⟩, fun j => a.Devices.length - j, 0, ⟨Nat.zero_le _, rfl⟩, sub_at [(0, 2), (1, 3)] rfl rfl rfl ?_ ?_, fun j hj => ?_⟩
  all_goals repeat' (first
    | (with_reducible rfl)
    | (conv => whnf
       first
         | exact trivial
         | (with_reducible rfl)
         | exact (rfl : (0 : Int) = ((0 : Nat) : Int))
         | exact w64_nat arith
         | refine bcase_T (by first | with_reducible rfl | decide) ?_
         | refine bcase_F (by first | with_reducible rfl | decide) ?_
         | refine bcase_dec (fun _ => ?_) (fun _ => ?_)
         | refine bcase_not ?_
         | refine bcase_intro (fun _ => ?_) (fun _ => ?_)
         | refine ⟨(by with_reducible rfl), ?_⟩
         | refine ⟨congrArg vi ?_, ?_⟩
         | refine ⟨congrArg vb ?_, ?_⟩
         | refine ⟨rfl, ?_⟩
         | refine ⟨(by kernel_rfl : drawOK _ = true), ?_⟩
         | refine Or.inl ?_
         | refine ⟨⟨congrArg (T.int _) ?_, rfl⟩, ?_⟩
         | refine ⟨⟨congrArg T.bool ?_, rfl⟩, ?_⟩
         | refine ⟨⟨rfl, Nat.le_of_ble_eq_true rfl⟩, ?_⟩
         | refine ⟨⟨rfl, rfl⟩, ?_⟩
         | refine ⟨⟨rfl, (by decide)⟩, ?_⟩
         | refine ⟨⟨rfl, ?_⟩, ?_⟩
         | refine ⟨Or.inr rfl, ?_⟩
         | refine ⟨Or.inl rfl, ?_⟩
         | refine ⟨⟨⟨rfl, rfl, rfl⟩, ?_⟩, ?_⟩
         | refine ⟨_, _, rfl, row_get _ _ arith, rfl, ?_⟩
         | refine ⟨Or.inr (by repeat (first | exact trivial | refine ⟨rfl, ?_⟩)), ?_⟩
         | refine ⟨(?_ : _ = ([] : List (List T))), ?_⟩
         | refine ⟨j, _, rfl, row_get _ _ (by omega), rfl, ?_⟩
         | refine ⟨_, c_sEqualDevices (a.Devices[j]'(by omega)) (b.Devices[j]'(by omega)) (h.2.1.2 _ (List.getElem_mem _)), ?_⟩
         | refine ⟨j + 1, ⟨⟨arith, ?_⟩, arith⟩, sub_at [(0, 2), (1, 3)] rfl rfl rfl ?_ ?_⟩
         | fail))
  all_goals first
    | (rw [hj.2, eqL_step_T (by omega) (by omega) (by assumption)]; done)
    | (unfold worldEq; rw [hj.2, eqL_step_F (by omega) (by omega) (by assumption), Bool.and_false]; done)
    | (unfold worldEq; rw [hj.2, eqL_end hl2 (by omega), hr, hs]; rfl)
    | skip
theorem bigW_of {w : DWorld} (h : w.sz ≤ 1099511627776) : bigW w := by
  simp only [DWorld.sz] at h
  refine ⟨bigSs_of (by omega), ⟨?_, fun d hd => ?_⟩, bigR_of (by omega), by omega⟩
  · have := szL_len DDevice.sz w.Devices; omega
  · have := szL_mem DDevice.sz w.Devices hd; exact bigD_of (by omega)
end Go.Proofs.Ytmkgakabmffibaa
