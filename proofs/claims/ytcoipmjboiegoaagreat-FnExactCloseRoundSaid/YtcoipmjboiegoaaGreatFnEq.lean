/-
  Contracts: equality of servers and of worlds.
  Conditions: none.
-/
import Derived.Test.YtcoipmjboiegoaaGreatFnS2
import Derived.Test.YtcoipmjboiegoaaGreatFnE
namespace Go.Proofs.YtcoipmjboiegoaaGreat
set_option maxHeartbeats 4000000
set_option maxRecDepth 20000
open Go.Vm Go.RowKit
attribute [local irreducible] FnAt MutAt InAt JAt CurAt

theorem c_EqualI (xs ys : List Int) (hx : xs.length ≤ 1099511627776) : FnAt Tryz.prog 54 [.one (L eI xs), .one (L eI ys)] [.one (.s (.bool (xs == ys)))] := by
  rw [← eqL_beq]
  refine fn_of Tryz.func54 rfl (by kernel_rfl) rfl ?_
  all_goals repeat' (first
    | (with_reducible rfl)
    | (conv => whnf
       first
         | exact trivial
         | (with_reducible rfl)
         | exact (rfl : (0 : Int) = ((0 : Nat) : Int))
         | exact w64_nat arith
         | refine bcase_T (by first | with_reducible rfl | decide) ?_
         | refine bcase_F (by first | with_reducible rfl | decide) ?_
         | refine bcase_dec (fun _ => ?_) (fun _ => ?_)
         | refine bcase_not ?_
         | refine bcase_intro (fun _ => ?_) (fun _ => ?_)
         | refine ⟨(by with_reducible rfl), ?_⟩
         | refine ⟨congrArg vi ?_, ?_⟩
         | refine ⟨congrArg vb ?_, ?_⟩
         | refine ⟨rfl, ?_⟩
         | refine ⟨(by kernel_rfl : drawOK _ = true), ?_⟩
         | refine Or.inl ?_
         | refine ⟨⟨congrArg (T.int _) ?_, rfl⟩, ?_⟩
         | refine ⟨⟨congrArg T.bool ?_, rfl⟩, ?_⟩
         | refine ⟨⟨rfl, Nat.le_of_ble_eq_true rfl⟩, ?_⟩
         | refine ⟨⟨rfl, rfl⟩, ?_⟩
         | refine ⟨⟨rfl, (by decide)⟩, ?_⟩
         | refine ⟨⟨rfl, ?_⟩, ?_⟩
         | refine ⟨Or.inr rfl, ?_⟩
         | refine ⟨Or.inl rfl, ?_⟩
         | refine ⟨⟨⟨rfl, rfl, rfl⟩, ?_⟩, ?_⟩
         | refine ⟨_, _, rfl, row_get _ _ arith, rfl, ?_⟩
         | refine ⟨Or.inr (by repeat (first | exact trivial | refine ⟨rfl, ?_⟩)), ?_⟩
         | refine ⟨(?_ : _ = ([] : List (List T))), ?_⟩
         | fail))
  rotate_left 1
  · rw [eqL_ne (by simp only [List.length_map] at *; omega)]
  conv => whnf
  have hl : xs.length = ys.length := by simp only [List.length_map] at *; omega
  refine ⟨Nat, fun i => i ≤ xs.length ∧ eqL (fun x y => x == y) xs ys = eqL (fun x y => x == y) (xs.drop i) (ys.drop i), fun i => ⟨[(0, vl (xs.map eI)), (1, vl (ys.map eI)), (12, vi xs.length), (13, vi i)], [], 0⟩, fun i => xs.length - i, 0, ⟨Nat.zero_le _, rfl⟩, ⟨[], rfl, rfl, rfl, ?_, ?_⟩, fun i hi => ?_⟩
  all_goals repeat' (first
    | (with_reducible rfl)
    | (conv => whnf
       first
         | exact trivial
         | (with_reducible rfl)
         | exact (rfl : (0 : Int) = ((0 : Nat) : Int))
         | exact w64_nat arith
         | refine bcase_T (by first | with_reducible rfl | decide) ?_
         | refine bcase_F (by first | with_reducible rfl | decide) ?_
         | refine bcase_dec (fun _ => ?_) (fun _ => ?_)
         | refine bcase_not ?_
         | refine bcase_intro (fun _ => ?_) (fun _ => ?_)
         | refine ⟨(by with_reducible rfl), ?_⟩
         | refine ⟨congrArg vi ?_, ?_⟩
         | refine ⟨congrArg vb ?_, ?_⟩
         | refine ⟨rfl, ?_⟩
         | refine ⟨(by kernel_rfl : drawOK _ = true), ?_⟩
         | refine Or.inl ?_
         | refine ⟨⟨congrArg (T.int _) ?_, rfl⟩, ?_⟩
         | refine ⟨⟨congrArg T.bool ?_, rfl⟩, ?_⟩
         | refine ⟨⟨rfl, Nat.le_of_ble_eq_true rfl⟩, ?_⟩
         | refine ⟨⟨rfl, rfl⟩, ?_⟩
         | refine ⟨⟨rfl, (by decide)⟩, ?_⟩
         | refine ⟨⟨rfl, ?_⟩, ?_⟩
         | refine ⟨Or.inr rfl, ?_⟩
         | refine ⟨Or.inl rfl, ?_⟩
         | refine ⟨⟨⟨rfl, rfl, rfl⟩, ?_⟩, ?_⟩
         | refine ⟨_, _, rfl, row_get _ _ arith, rfl, ?_⟩
         | refine ⟨Or.inr (by repeat (first | exact trivial | refine ⟨rfl, ?_⟩)), ?_⟩
         | refine ⟨(?_ : _ = ([] : List (List T))), ?_⟩
         | refine ⟨i + 1, ⟨⟨arith, ?_⟩, arith⟩, ⟨[], rfl, rfl, rfl, ?_, ?_⟩⟩
         | fail))
  all_goals first
    | (rw [List.length_map])
    | (rw [hi.2, eqL_step_T (by omega) (by omega) (by simp_all)]; done)
    | (rw [hi.2, eqL_step_F (by omega) (by omega) (by simp_all)]; done)
    | (rw [hi.2, eqL_end hl (by omega)])
def shareEq (x y : DReceivedShare) : Bool := decide (x.Client = y.Client) && (x.Share.Rows == y.Share.Rows)
def servEq (a b : DServer) : Bool := decide (a.Id = b.Id) && decide (a.Rows = b.Rows) && decide (a.Round = b.Round) && decide (a.Behavior = b.Behavior) && eqL shareEq a.Received b.Received
theorem c_shareEq (x y : DReceivedShare) (h : bigB x.Share.Rows) : FnAt Tryz.prog 109 [.agg (DReceivedShare.e x), .agg (DReceivedShare.e y)] [.one (.s (.bool (shareEq x y)))] := by
  refine fn_of Tryz.func109 rfl (by kernel_rfl) rfl ?_
  all_goals repeat' (first
    | (with_reducible rfl)
    | (conv => whnf
       first
         | exact trivial
         | (with_reducible rfl)
         | exact (rfl : (0 : Int) = ((0 : Nat) : Int))
         | exact w64_nat arith
         | refine bcase_T (by first | with_reducible rfl | decide) ?_
         | refine bcase_F (by first | with_reducible rfl | decide) ?_
         | refine bcase_dec (fun _ => ?_) (fun _ => ?_)
         | refine bcase_not ?_
         | refine bcase_intro (fun _ => ?_) (fun _ => ?_)
         | refine ⟨(by with_reducible rfl), ?_⟩
         | refine ⟨congrArg vi ?_, ?_⟩
         | refine ⟨congrArg vb ?_, ?_⟩
         | refine ⟨rfl, ?_⟩
         | refine ⟨(by kernel_rfl : drawOK _ = true), ?_⟩
         | refine Or.inl ?_
         | refine ⟨⟨congrArg (T.int _) ?_, rfl⟩, ?_⟩
         | refine ⟨⟨congrArg T.bool ?_, rfl⟩, ?_⟩
         | refine ⟨⟨rfl, Nat.le_of_ble_eq_true rfl⟩, ?_⟩
         | refine ⟨⟨rfl, rfl⟩, ?_⟩
         | refine ⟨⟨rfl, (by decide)⟩, ?_⟩
         | refine ⟨⟨rfl, ?_⟩, ?_⟩
         | refine ⟨Or.inr rfl, ?_⟩
         | refine ⟨Or.inl rfl, ?_⟩
         | refine ⟨⟨⟨rfl, rfl, rfl⟩, ?_⟩, ?_⟩
         | refine ⟨_, _, rfl, row_get _ _ arith, rfl, ?_⟩
         | refine ⟨Or.inr (by repeat (first | exact trivial | refine ⟨rfl, ?_⟩)), ?_⟩
         | refine ⟨(?_ : _ = ([] : List (List T))), ?_⟩
         | refine ⟨_, c_EqualDatabases x.Share y.Share h, ?_⟩
         | fail))
  all_goals (simp_all [shareEq])
theorem c_EqualFuncRS (xs ys : List DReceivedShare) (hx : xs.length ≤ 1099511627776) (h : ∀ r ∈ xs, bigB r.Share.Rows) : FnAt Tryz.prog 108 [.one (L DReceivedShare.e xs), .one (L DReceivedShare.e ys), .one (.fn 109 [])] [.one (.s (.bool (eqL shareEq xs ys)))] := by
  refine fn_of Tryz.func108 rfl (by kernel_rfl) rfl ?_
  all_goals repeat' (first
    | (with_reducible rfl)
    | (conv => whnf
       first
         | exact trivial
         | (with_reducible rfl)
         | exact (rfl : (0 : Int) = ((0 : Nat) : Int))
         | exact w64_nat arith
         | refine bcase_T (by first | with_reducible rfl | decide) ?_
         | refine bcase_F (by first | with_reducible rfl | decide) ?_
         | refine bcase_dec (fun _ => ?_) (fun _ => ?_)
         | refine bcase_not ?_
         | refine bcase_intro (fun _ => ?_) (fun _ => ?_)
         | refine ⟨(by with_reducible rfl), ?_⟩
         | refine ⟨congrArg vi ?_, ?_⟩
         | refine ⟨congrArg vb ?_, ?_⟩
         | refine ⟨rfl, ?_⟩
         | refine ⟨(by kernel_rfl : drawOK _ = true), ?_⟩
         | refine Or.inl ?_
         | refine ⟨⟨congrArg (T.int _) ?_, rfl⟩, ?_⟩
         | refine ⟨⟨congrArg T.bool ?_, rfl⟩, ?_⟩
         | refine ⟨⟨rfl, Nat.le_of_ble_eq_true rfl⟩, ?_⟩
         | refine ⟨⟨rfl, rfl⟩, ?_⟩
         | refine ⟨⟨rfl, (by decide)⟩, ?_⟩
         | refine ⟨⟨rfl, ?_⟩, ?_⟩
         | refine ⟨Or.inr rfl, ?_⟩
         | refine ⟨Or.inl rfl, ?_⟩
         | refine ⟨⟨⟨rfl, rfl, rfl⟩, ?_⟩, ?_⟩
         | refine ⟨_, _, rfl, row_get _ _ arith, rfl, ?_⟩
         | refine ⟨Or.inr (by repeat (first | exact trivial | refine ⟨rfl, ?_⟩)), ?_⟩
         | refine ⟨(?_ : _ = ([] : List (List T))), ?_⟩
         | fail))
  rotate_left 1
  · rw [eqL_ne (by simp only [List.length_map] at *; omega)]
  conv => whnf
  have hl : xs.length = ys.length := by simp only [List.length_map] at *; omega
  refine ⟨Nat, fun i => i ≤ xs.length ∧ eqL shareEq xs ys = eqL shareEq (xs.drop i) (ys.drop i), fun i => ⟨[(1, vl (ys.map DReceivedShare.e)), (2, .c (.t (.fn 109 []))), (15, vl (xs.map DReceivedShare.e)), (16, vi xs.length), (17, vi i)], [], 0⟩, fun i => xs.length - i, 0, ⟨Nat.zero_le _, rfl⟩, ⟨[], rfl, rfl, rfl, ?_, ?_⟩, fun i hi => ?_⟩
  all_goals repeat' (first
    | (with_reducible rfl)
    | (conv => whnf
       first
         | exact trivial
         | (with_reducible rfl)
         | exact (rfl : (0 : Int) = ((0 : Nat) : Int))
         | exact w64_nat arith
         | refine bcase_T (by first | with_reducible rfl | decide) ?_
         | refine bcase_F (by first | with_reducible rfl | decide) ?_
         | refine bcase_dec (fun _ => ?_) (fun _ => ?_)
         | refine bcase_not ?_
         | refine bcase_intro (fun _ => ?_) (fun _ => ?_)
         | refine ⟨(by with_reducible rfl), ?_⟩
         | refine ⟨congrArg vi ?_, ?_⟩
         | refine ⟨congrArg vb ?_, ?_⟩
         | refine ⟨rfl, ?_⟩
         | refine ⟨(by kernel_rfl : drawOK _ = true), ?_⟩
         | refine Or.inl ?_
         | refine ⟨⟨congrArg (T.int _) ?_, rfl⟩, ?_⟩
         | refine ⟨⟨congrArg T.bool ?_, rfl⟩, ?_⟩
         | refine ⟨⟨rfl, Nat.le_of_ble_eq_true rfl⟩, ?_⟩
         | refine ⟨⟨rfl, rfl⟩, ?_⟩
         | refine ⟨⟨rfl, (by decide)⟩, ?_⟩
         | refine ⟨⟨rfl, ?_⟩, ?_⟩
         | refine ⟨Or.inr rfl, ?_⟩
         | refine ⟨Or.inl rfl, ?_⟩
         | refine ⟨⟨⟨rfl, rfl, rfl⟩, ?_⟩, ?_⟩
         | refine ⟨_, _, rfl, row_get _ _ arith, rfl, ?_⟩
         | refine ⟨Or.inr (by repeat (first | exact trivial | refine ⟨rfl, ?_⟩)), ?_⟩
         | refine ⟨(?_ : _ = ([] : List (List T))), ?_⟩
         | refine ⟨_, c_shareEq xs[i] ys[i] (h _ (List.getElem_mem _)), ?_⟩
         | refine ⟨i + 1, ⟨⟨arith, ?_⟩, arith⟩, ⟨[], rfl, rfl, rfl, ?_, ?_⟩⟩
         | fail))
  all_goals first
    | (rw [List.length_map]; done)
    | (rw [hi.2, eqL_step_T (by omega) (by omega) (by assumption)]; done)
    | (rw [hi.2, eqL_step_F (by omega) (by omega) (by assumption)]; done)
    | (rw [hi.2, eqL_end hl (by omega)]; done)
theorem c_EqualServers (a b : DServer) (h : bigS a) : FnAt Tryz.prog 50 [.agg (DServer.e a), .agg (DServer.e b)] [.one (.s (.bool (servEq a b)))] := by
  refine fn_of Tryz.func50 rfl (by kernel_rfl) rfl ?_
  all_goals repeat' (first
    | (with_reducible rfl)
    | (conv => whnf
       first
         | exact trivial
         | (with_reducible rfl)
         | exact (rfl : (0 : Int) = ((0 : Nat) : Int))
         | exact w64_nat arith
         | refine bcase_T (by first | with_reducible rfl | decide) ?_
         | refine bcase_F (by first | with_reducible rfl | decide) ?_
         | refine bcase_dec (fun _ => ?_) (fun _ => ?_)
         | refine bcase_not ?_
         | refine bcase_intro (fun _ => ?_) (fun _ => ?_)
         | refine ⟨(by with_reducible rfl), ?_⟩
         | refine ⟨congrArg vi ?_, ?_⟩
         | refine ⟨congrArg vb ?_, ?_⟩
         | refine ⟨rfl, ?_⟩
         | refine ⟨(by kernel_rfl : drawOK _ = true), ?_⟩
         | refine Or.inl ?_
         | refine ⟨⟨congrArg (T.int _) ?_, rfl⟩, ?_⟩
         | refine ⟨⟨congrArg T.bool ?_, rfl⟩, ?_⟩
         | refine ⟨⟨rfl, Nat.le_of_ble_eq_true rfl⟩, ?_⟩
         | refine ⟨⟨rfl, rfl⟩, ?_⟩
         | refine ⟨⟨rfl, (by decide)⟩, ?_⟩
         | refine ⟨⟨rfl, ?_⟩, ?_⟩
         | refine ⟨Or.inr rfl, ?_⟩
         | refine ⟨Or.inl rfl, ?_⟩
         | refine ⟨⟨⟨rfl, rfl, rfl⟩, ?_⟩, ?_⟩
         | refine ⟨_, _, rfl, row_get _ _ arith, rfl, ?_⟩
         | refine ⟨Or.inr (by repeat (first | exact trivial | refine ⟨rfl, ?_⟩)), ?_⟩
         | refine ⟨(?_ : _ = ([] : List (List T))), ?_⟩
         | refine ⟨_, c_EqualFuncRS _ _ h.1 h.2, ?_⟩
         | fail))
  all_goals (simp_all [servEq])
theorem c_EqualFuncSv (xs ys : List DServer) (hs : bigSs xs) : FnAt Tryz.prog 49 [.one (L DServer.e xs), .one (L DServer.e ys), .one (.fn 50 [])] [.one (.s (.bool (eqL servEq xs ys)))] := by
  have hx := hs.1
  refine fn_of Tryz.func49 rfl (by kernel_rfl) rfl ?_
  all_goals repeat' (first
    | (with_reducible rfl)
    | (conv => whnf
       first
         | exact trivial
         | (with_reducible rfl)
         | exact (rfl : (0 : Int) = ((0 : Nat) : Int))
         | exact w64_nat arith
         | refine bcase_T (by first | with_reducible rfl | decide) ?_
         | refine bcase_F (by first | with_reducible rfl | decide) ?_
         | refine bcase_dec (fun _ => ?_) (fun _ => ?_)
         | refine bcase_not ?_
         | refine bcase_intro (fun _ => ?_) (fun _ => ?_)
         | refine ⟨(by with_reducible rfl), ?_⟩
         | refine ⟨congrArg vi ?_, ?_⟩
         | refine ⟨congrArg vb ?_, ?_⟩
         | refine ⟨rfl, ?_⟩
         | refine ⟨(by kernel_rfl : drawOK _ = true), ?_⟩
         | refine Or.inl ?_
         | refine ⟨⟨congrArg (T.int _) ?_, rfl⟩, ?_⟩
         | refine ⟨⟨congrArg T.bool ?_, rfl⟩, ?_⟩
         | refine ⟨⟨rfl, Nat.le_of_ble_eq_true rfl⟩, ?_⟩
         | refine ⟨⟨rfl, rfl⟩, ?_⟩
         | refine ⟨⟨rfl, (by decide)⟩, ?_⟩
         | refine ⟨⟨rfl, ?_⟩, ?_⟩
         | refine ⟨Or.inr rfl, ?_⟩
         | refine ⟨Or.inl rfl, ?_⟩
         | refine ⟨⟨⟨rfl, rfl, rfl⟩, ?_⟩, ?_⟩
         | refine ⟨_, _, rfl, row_get _ _ arith, rfl, ?_⟩
         | refine ⟨Or.inr (by repeat (first | exact trivial | refine ⟨rfl, ?_⟩)), ?_⟩
         | refine ⟨(?_ : _ = ([] : List (List T))), ?_⟩
         | fail))
  rotate_left 1
  · rw [eqL_ne (by simp only [List.length_map] at *; omega)]
  conv => whnf
  have hl : xs.length = ys.length := by simp only [List.length_map] at *; omega
  refine ⟨Nat, fun i => i ≤ xs.length ∧ eqL servEq xs ys = eqL servEq (xs.drop i) (ys.drop i), fun i => ⟨[(1, vl (ys.map DServer.e)), (2, .c (.t (.fn 50 []))), (15, vl (xs.map DServer.e)), (16, vi xs.length), (17, vi i)], [], 0⟩, fun i => xs.length - i, 0, ⟨Nat.zero_le _, rfl⟩, ⟨[], rfl, rfl, rfl, ?_, ?_⟩, fun i hi => ?_⟩
  all_goals repeat' (first
    | (with_reducible rfl)
    | (conv => whnf
       first
         | exact trivial
         | (with_reducible rfl)
         | exact (rfl : (0 : Int) = ((0 : Nat) : Int))
         | exact w64_nat arith
         | refine bcase_T (by first | with_reducible rfl | decide) ?_
         | refine bcase_F (by first | with_reducible rfl | decide) ?_
         | refine bcase_dec (fun _ => ?_) (fun _ => ?_)
         | refine bcase_not ?_
         | refine bcase_intro (fun _ => ?_) (fun _ => ?_)
         | refine ⟨(by with_reducible rfl), ?_⟩
         | refine ⟨congrArg vi ?_, ?_⟩
         | refine ⟨congrArg vb ?_, ?_⟩
         | refine ⟨rfl, ?_⟩
         | refine ⟨(by kernel_rfl : drawOK _ = true), ?_⟩
         | refine Or.inl ?_
         | refine ⟨⟨congrArg (T.int _) ?_, rfl⟩, ?_⟩
         | refine ⟨⟨congrArg T.bool ?_, rfl⟩, ?_⟩
         | refine ⟨⟨rfl, Nat.le_of_ble_eq_true rfl⟩, ?_⟩
         | refine ⟨⟨rfl, rfl⟩, ?_⟩
         | refine ⟨⟨rfl, (by decide)⟩, ?_⟩
         | refine ⟨⟨rfl, ?_⟩, ?_⟩
         | refine ⟨Or.inr rfl, ?_⟩
         | refine ⟨Or.inl rfl, ?_⟩
         | refine ⟨⟨⟨rfl, rfl, rfl⟩, ?_⟩, ?_⟩
         | refine ⟨_, _, rfl, row_get _ _ arith, rfl, ?_⟩
         | refine ⟨Or.inr (by repeat (first | exact trivial | refine ⟨rfl, ?_⟩)), ?_⟩
         | refine ⟨(?_ : _ = ([] : List (List T))), ?_⟩
         | refine ⟨_, c_EqualServers xs[i] ys[i] (hs.2 _ (List.getElem_mem _)), ?_⟩
         | refine ⟨i + 1, ⟨⟨arith, ?_⟩, arith⟩, ⟨[], rfl, rfl, rfl, ?_, ?_⟩⟩
         | fail))
  all_goals first
    | (rw [List.length_map]; done)
    | (rw [hi.2, eqL_step_T (by omega) (by omega) (by assumption)]; done)
    | (rw [hi.2, eqL_step_F (by omega) (by omega) (by assumption)]; done)
    | (rw [hi.2, eqL_end hl (by omega)]; done)
def bigDs (l : List DDevice) : Prop := l.length ≤ 1099511627776 ∧ ∀ d ∈ l, bigD d
def bigW (w : DWorld) : Prop := bigSs w.Servers ∧ bigDs w.Devices ∧ bigR w.Archive.Rounds ∧ w.Replaced.length ≤ 1099511627776
def worldHead (a b : DWorld) : Bool := decide (a.Rows = b.Rows) && archEq a.Archive b.Archive && decide (a.Master = b.Master) && decide (a.Seed = b.Seed) && decide (a.Round = b.Round) && (a.Replaced == b.Replaced) && decide (a.Cancelled = b.Cancelled)
def worldEq (a b : DWorld) : Bool := worldHead a b && eqL servEq a.Servers b.Servers && eqL devEq a.Devices b.Devices
theorem c_EqualFuncDv (xs ys : List DDevice) (hs : bigDs xs) : FnAt Tryz.prog 51 [.one (L DDevice.e xs), .one (L DDevice.e ys), .one (.fn 52 [])] [.one (.s (.bool (eqL devEq xs ys)))] := by
  have hx := hs.1
  refine fn_of Tryz.func51 rfl (by kernel_rfl) rfl ?_
  all_goals repeat' (first
    | (with_reducible rfl)
    | (conv => whnf
       first
         | exact trivial
         | (with_reducible rfl)
         | exact (rfl : (0 : Int) = ((0 : Nat) : Int))
         | exact w64_nat arith
         | refine bcase_T (by first | with_reducible rfl | decide) ?_
         | refine bcase_F (by first | with_reducible rfl | decide) ?_
         | refine bcase_dec (fun _ => ?_) (fun _ => ?_)
         | refine bcase_not ?_
         | refine bcase_intro (fun _ => ?_) (fun _ => ?_)
         | refine ⟨(by with_reducible rfl), ?_⟩
         | refine ⟨congrArg vi ?_, ?_⟩
         | refine ⟨congrArg vb ?_, ?_⟩
         | refine ⟨rfl, ?_⟩
         | refine ⟨(by kernel_rfl : drawOK _ = true), ?_⟩
         | refine Or.inl ?_
         | refine ⟨⟨congrArg (T.int _) ?_, rfl⟩, ?_⟩
         | refine ⟨⟨congrArg T.bool ?_, rfl⟩, ?_⟩
         | refine ⟨⟨rfl, Nat.le_of_ble_eq_true rfl⟩, ?_⟩
         | refine ⟨⟨rfl, rfl⟩, ?_⟩
         | refine ⟨⟨rfl, (by decide)⟩, ?_⟩
         | refine ⟨⟨rfl, ?_⟩, ?_⟩
         | refine ⟨Or.inr rfl, ?_⟩
         | refine ⟨Or.inl rfl, ?_⟩
         | refine ⟨⟨⟨rfl, rfl, rfl⟩, ?_⟩, ?_⟩
         | refine ⟨_, _, rfl, row_get _ _ arith, rfl, ?_⟩
         | refine ⟨Or.inr (by repeat (first | exact trivial | refine ⟨rfl, ?_⟩)), ?_⟩
         | refine ⟨(?_ : _ = ([] : List (List T))), ?_⟩
         | fail))
  rotate_left 1
  · rw [eqL_ne (by simp only [List.length_map] at *; omega)]
  conv => whnf
  have hl : xs.length = ys.length := by simp only [List.length_map] at *; omega
  refine ⟨Nat, fun i => i ≤ xs.length ∧ eqL devEq xs ys = eqL devEq (xs.drop i) (ys.drop i), fun i => ⟨[(1, vl (ys.map DDevice.e)), (2, .c (.t (.fn 52 []))), (15, vl (xs.map DDevice.e)), (16, vi xs.length), (17, vi i)], [], 0⟩, fun i => xs.length - i, 0, ⟨Nat.zero_le _, rfl⟩, ⟨[], rfl, rfl, rfl, ?_, ?_⟩, fun i hi => ?_⟩
  all_goals repeat' (first
    | (with_reducible rfl)
    | (conv => whnf
       first
         | exact trivial
         | (with_reducible rfl)
         | exact (rfl : (0 : Int) = ((0 : Nat) : Int))
         | exact w64_nat arith
         | refine bcase_T (by first | with_reducible rfl | decide) ?_
         | refine bcase_F (by first | with_reducible rfl | decide) ?_
         | refine bcase_dec (fun _ => ?_) (fun _ => ?_)
         | refine bcase_not ?_
         | refine bcase_intro (fun _ => ?_) (fun _ => ?_)
         | refine ⟨(by with_reducible rfl), ?_⟩
         | refine ⟨congrArg vi ?_, ?_⟩
         | refine ⟨congrArg vb ?_, ?_⟩
         | refine ⟨rfl, ?_⟩
         | refine ⟨(by kernel_rfl : drawOK _ = true), ?_⟩
         | refine Or.inl ?_
         | refine ⟨⟨congrArg (T.int _) ?_, rfl⟩, ?_⟩
         | refine ⟨⟨congrArg T.bool ?_, rfl⟩, ?_⟩
         | refine ⟨⟨rfl, Nat.le_of_ble_eq_true rfl⟩, ?_⟩
         | refine ⟨⟨rfl, rfl⟩, ?_⟩
         | refine ⟨⟨rfl, (by decide)⟩, ?_⟩
         | refine ⟨⟨rfl, ?_⟩, ?_⟩
         | refine ⟨Or.inr rfl, ?_⟩
         | refine ⟨Or.inl rfl, ?_⟩
         | refine ⟨⟨⟨rfl, rfl, rfl⟩, ?_⟩, ?_⟩
         | refine ⟨_, _, rfl, row_get _ _ arith, rfl, ?_⟩
         | refine ⟨Or.inr (by repeat (first | exact trivial | refine ⟨rfl, ?_⟩)), ?_⟩
         | refine ⟨(?_ : _ = ([] : List (List T))), ?_⟩
         | refine ⟨_, c_EqualDevices xs[i] ys[i] (hs.2 _ (List.getElem_mem _)), ?_⟩
         | refine ⟨i + 1, ⟨⟨arith, ?_⟩, arith⟩, ⟨[], rfl, rfl, rfl, ?_, ?_⟩⟩
         | fail))
  all_goals first
    | (rw [List.length_map]; done)
    | (rw [hi.2, eqL_step_T (by omega) (by omega) (by assumption)]; done)
    | (rw [hi.2, eqL_step_F (by omega) (by omega) (by assumption)]; done)
    | (rw [hi.2, eqL_end hl (by omega)]; done)
theorem c_EqualWorlds (a b : DWorld) (h : bigW a) : FnAt Tryz.prog 9 [.agg (DWorld.e a), .agg (DWorld.e b)] [.one (.s (.bool (worldEq a b)))] := by
  refine fn_of Tryz.func9 rfl (by kernel_rfl) rfl ?_
  all_goals repeat' (first
    | (with_reducible rfl)
    | (conv => whnf
       first
         | exact trivial
         | (with_reducible rfl)
         | exact (rfl : (0 : Int) = ((0 : Nat) : Int))
         | exact w64_nat arith
         | refine bcase_T (by first | with_reducible rfl | decide) ?_
         | refine bcase_F (by first | with_reducible rfl | decide) ?_
         | refine bcase_dec (fun _ => ?_) (fun _ => ?_)
         | refine bcase_not ?_
         | refine bcase_intro (fun _ => ?_) (fun _ => ?_)
         | refine ⟨(by with_reducible rfl), ?_⟩
         | refine ⟨congrArg vi ?_, ?_⟩
         | refine ⟨congrArg vb ?_, ?_⟩
         | refine ⟨rfl, ?_⟩
         | refine ⟨(by kernel_rfl : drawOK _ = true), ?_⟩
         | refine Or.inl ?_
         | refine ⟨⟨congrArg (T.int _) ?_, rfl⟩, ?_⟩
         | refine ⟨⟨congrArg T.bool ?_, rfl⟩, ?_⟩
         | refine ⟨⟨rfl, Nat.le_of_ble_eq_true rfl⟩, ?_⟩
         | refine ⟨⟨rfl, rfl⟩, ?_⟩
         | refine ⟨⟨rfl, (by decide)⟩, ?_⟩
         | refine ⟨⟨rfl, ?_⟩, ?_⟩
         | refine ⟨Or.inr rfl, ?_⟩
         | refine ⟨Or.inl rfl, ?_⟩
         | refine ⟨⟨⟨rfl, rfl, rfl⟩, ?_⟩, ?_⟩
         | refine ⟨_, _, rfl, row_get _ _ arith, rfl, ?_⟩
         | refine ⟨Or.inr (by repeat (first | exact trivial | refine ⟨rfl, ?_⟩)), ?_⟩
         | refine ⟨(?_ : _ = ([] : List (List T))), ?_⟩
         | refine ⟨_, c_EqualFuncSv a.Servers b.Servers h.1, ?_⟩
         | refine ⟨_, c_EqualFuncDv a.Devices b.Devices h.2.1, ?_⟩
         | refine ⟨_, c_EqualArchives a.Archive b.Archive h.2.2.1, ?_⟩
         | refine ⟨_, c_EqualI a.Replaced b.Replaced h.2.2.2, ?_⟩
         | fail))
  all_goals first
    | (simp_all [worldEq, worldHead]; done)
    | (simp_all [worldEq, worldHead]; rfl)
theorem bigW_of {w : DWorld} (h : w.sz ≤ 1099511627776) : bigW w := by
  simp only [DWorld.sz] at h
  refine ⟨bigSs_of (by omega), ⟨?_, fun d hd => ?_⟩, bigR_of (by omega), by omega⟩
  · have := szL_len DDevice.sz w.Devices; omega
  · have := szL_mem DDevice.sz w.Devices hd; exact bigD_of (by omega)
end Go.Proofs.YtcoipmjboiegoaaGreat
