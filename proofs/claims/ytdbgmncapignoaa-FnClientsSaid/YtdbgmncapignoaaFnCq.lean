/-
  Contract: the statement about clients.
  Conditions: none.
-/
import Derived.Test.YtdbgmncapignoaaFnDk
import Derived.Test.YtdbgmncapignoaaFnCp
import Derived.Test.YtdbgmncapignoaaFnRd
namespace Go.Proofs.Ytdbgmncapignoaa
set_option maxHeartbeats 4000000
set_option maxRecDepth 20000
open Go.Vm Go.RowKit
attribute [local irreducible] FnAt MutAt InAt JAt CurAt FnE CurE RegAt
theorem c_bigC (b : List UInt8) : FnAt Try.prog 7 [.one (L eU b)] [.one (.s (.bool (decide (1048576 < (b.length : Int)))))] := by
  have hm : (b.map eU).length = b.length := List.length_map eU
  refine fn_of Try.func7 rfl (by kernel_rfl) rfl ?_
  all_goals repeat' (first
    | (with_reducible rfl)
    | (conv => whnf
       first
         | exact trivial
         | (with_reducible rfl)
         | exact (rfl : (0 : Int) = ((0 : Nat) : Int))
         | exact w64_nat arith
         | refine bcase_T (by first | with_reducible rfl | decide) ?_
         | refine bcase_F (by first | with_reducible rfl | decide) ?_
         | refine bcase_dec (fun _ => ?_) (fun _ => ?_)
         | refine bcase_not ?_
         | refine bcase_intro (fun _ => ?_) (fun _ => ?_)
         | refine ⟨(by with_reducible rfl), ?_⟩
         | refine ⟨congrArg vi ?_, ?_⟩
         | refine ⟨congrArg vb ?_, ?_⟩
         | refine ⟨rfl, ?_⟩
         | refine ⟨(by kernel_rfl : drawOK _ = true), ?_⟩
         | refine Or.inl ?_
         | refine ⟨⟨congrArg (T.int _) ?_, rfl⟩, ?_⟩
         | refine ⟨⟨congrArg T.bool ?_, rfl⟩, ?_⟩
         | refine ⟨⟨rfl, Nat.le_of_ble_eq_true rfl⟩, ?_⟩
         | refine ⟨⟨rfl, rfl⟩, ?_⟩
         | refine ⟨⟨rfl, (by decide)⟩, ?_⟩
         | refine ⟨⟨rfl, ?_⟩, ?_⟩
         | refine ⟨Or.inr rfl, ?_⟩
         | refine ⟨Or.inl rfl, ?_⟩
         | refine ⟨⟨⟨rfl, rfl, rfl⟩, ?_⟩, ?_⟩
         | refine ⟨_, _, rfl, row_get _ _ arith, rfl, ?_⟩
         | refine ⟨Or.inr (by repeat (first | exact trivial | refine ⟨rfl, ?_⟩)), ?_⟩
         | refine ⟨(?_ : _ = ([] : List (List T))), ?_⟩
         | fail))
  all_goals (rw [hm])
theorem same_T {xs ys : List UInt8} {i : Nat} (h : i < xs.length) (h2 : i < ys.length) (hq : ¬ ((xs[i].toNat : Nat) : Int) = ((ys[i].toNat : Nat) : Int)) : (xs.drop i == ys.drop i) = false := by
  rw [List.drop_eq_getElem_cons h, List.drop_eq_getElem_cons h2, beq_eq_false_iff_ne]
  intro e
  injection e with e1 e2
  exact hq (by rw [e1])
theorem same_F {xs ys : List UInt8} {i : Nat} (h : i < xs.length) (h2 : i < ys.length) (hq : ((xs[i].toNat : Nat) : Int) = ((ys[i].toNat : Nat) : Int)) : (xs.drop i == ys.drop i) = (xs.drop (i + 1) == ys.drop (i + 1)) := by
  have e : xs[i] = ys[i] := UInt8.toNat_inj.1 (by omega)
  rw [List.drop_eq_getElem_cons h, List.drop_eq_getElem_cons h2, e]
  rw [Bool.eq_iff_iff, beq_iff_eq, beq_iff_eq, List.cons.injEq]
  exact ⟨fun h => h.2, fun h => ⟨rfl, h⟩⟩
theorem c_sameB (xs ys : List UInt8) (hx : xs.length ≤ 1099511627776) : FnAt Try.prog 13 [.one (L eU xs), .one (L eU ys)] [.one (.s (.bool (xs == ys)))] := by
  have hm : (xs.map eU).length = xs.length := List.length_map eU
  have hm2 : (ys.map eU).length = ys.length := List.length_map eU
  by_cases hl : xs.length = ys.length
  case neg =>
    have e : (xs == ys) = false := by rw [beq_eq_false_iff_ne]; intro h; exact hl (by rw [h])
    rw [e]
    refine fn_of Try.func13 rfl (by kernel_rfl) rfl ?_
    all_goals repeat' (first
      | (with_reducible rfl)
      | (conv => whnf
         first
           | refine bcase_T (by rw [hm, hm2, bne_iff_ne]; omega) ?_
           | exact trivial
           | (with_reducible rfl)
           | exact (rfl : (0 : Int) = ((0 : Nat) : Int))
           | exact w64_nat arith
           | refine bcase_T (by first | with_reducible rfl | decide) ?_
           | refine bcase_F (by first | with_reducible rfl | decide) ?_
           | refine bcase_dec (fun _ => ?_) (fun _ => ?_)
           | refine bcase_not ?_
           | refine bcase_intro (fun _ => ?_) (fun _ => ?_)
           | refine ⟨(by with_reducible rfl), ?_⟩
           | refine ⟨congrArg vi ?_, ?_⟩
           | refine ⟨congrArg vb ?_, ?_⟩
           | refine ⟨rfl, ?_⟩
           | refine ⟨(by kernel_rfl : drawOK _ = true), ?_⟩
           | refine Or.inl ?_
           | refine ⟨⟨congrArg (T.int _) ?_, rfl⟩, ?_⟩
           | refine ⟨⟨congrArg T.bool ?_, rfl⟩, ?_⟩
           | refine ⟨⟨rfl, Nat.le_of_ble_eq_true rfl⟩, ?_⟩
           | refine ⟨⟨rfl, rfl⟩, ?_⟩
           | refine ⟨⟨rfl, (by decide)⟩, ?_⟩
           | refine ⟨⟨rfl, ?_⟩, ?_⟩
           | refine ⟨Or.inr rfl, ?_⟩
           | refine ⟨Or.inl rfl, ?_⟩
           | refine ⟨⟨⟨rfl, rfl, rfl⟩, ?_⟩, ?_⟩
           | refine ⟨_, _, rfl, row_get _ _ arith, rfl, ?_⟩
           | refine ⟨Or.inr (by repeat (first | exact trivial | refine ⟨rfl, ?_⟩)), ?_⟩
           | refine ⟨(?_ : _ = ([] : List (List T))), ?_⟩
           | fail))
  refine fn_of Try.func13 rfl (by kernel_rfl) rfl ?_
  all_goals repeat' (first
    | (with_reducible rfl)
    | (conv => whnf
       first
         | refine bcase_F (by rw [hm, hm2, bne_eq_false_iff_eq]; omega) ?_
         | exact trivial
         | (with_reducible rfl)
         | exact (rfl : (0 : Int) = ((0 : Nat) : Int))
         | exact w64_nat arith
         | refine bcase_T (by first | with_reducible rfl | decide) ?_
         | refine bcase_F (by first | with_reducible rfl | decide) ?_
         | refine bcase_dec (fun _ => ?_) (fun _ => ?_)
         | refine bcase_not ?_
         | refine bcase_intro (fun _ => ?_) (fun _ => ?_)
         | refine ⟨(by with_reducible rfl), ?_⟩
         | refine ⟨congrArg vi ?_, ?_⟩
         | refine ⟨congrArg vb ?_, ?_⟩
         | refine ⟨rfl, ?_⟩
         | refine ⟨(by kernel_rfl : drawOK _ = true), ?_⟩
         | refine Or.inl ?_
         | refine ⟨⟨congrArg (T.int _) ?_, rfl⟩, ?_⟩
         | refine ⟨⟨congrArg T.bool ?_, rfl⟩, ?_⟩
         | refine ⟨⟨rfl, Nat.le_of_ble_eq_true rfl⟩, ?_⟩
         | refine ⟨⟨rfl, rfl⟩, ?_⟩
         | refine ⟨⟨rfl, (by decide)⟩, ?_⟩
         | refine ⟨⟨rfl, ?_⟩, ?_⟩
         | refine ⟨Or.inr rfl, ?_⟩
         | refine ⟨Or.inl rfl, ?_⟩
         | refine ⟨⟨⟨rfl, rfl, rfl⟩, ?_⟩, ?_⟩
         | refine ⟨_, _, rfl, row_get _ _ arith, rfl, ?_⟩
         | refine ⟨Or.inr (by repeat (first | exact trivial | refine ⟨rfl, ?_⟩)), ?_⟩
         | refine ⟨(?_ : _ = ([] : List (List T))), ?_⟩
         | fail))
  conv => whnf
  refine ⟨Nat, fun i => i ≤ xs.length ∧ (xs == ys) = (xs.drop i == ys.drop i), fun i => ⟨[(0, vl (xs.map eU)), (1, vl (ys.map eU)), (5, vi i)], [], 0⟩, fun i => xs.length - i, 0, ⟨Nat.zero_le _, rfl⟩, ⟨[], rfl, rfl, rfl, ?_, ?_⟩, fun i hi => ?_⟩
  all_goals repeat' (first
    | (with_reducible rfl)
    | (conv => whnf
       first
         | refine ⟨i, _, rfl, row_get eU xs (by omega), rfl, ?_⟩
         | refine ⟨i, _, rfl, row_get eU ys (by omega), rfl, ?_⟩
         | refine ⟨i + 1, ⟨⟨arith, ?_⟩, arith⟩, ⟨[], rfl, rfl, rfl, ?_, ?_⟩⟩
         | exact trivial
         | (with_reducible rfl)
         | exact (rfl : (0 : Int) = ((0 : Nat) : Int))
         | exact w64_nat arith
         | refine bcase_T (by first | with_reducible rfl | decide) ?_
         | refine bcase_F (by first | with_reducible rfl | decide) ?_
         | refine bcase_dec (fun _ => ?_) (fun _ => ?_)
         | refine bcase_not ?_
         | refine bcase_intro (fun _ => ?_) (fun _ => ?_)
         | refine ⟨(by with_reducible rfl), ?_⟩
         | refine ⟨congrArg vi ?_, ?_⟩
         | refine ⟨congrArg vb ?_, ?_⟩
         | refine ⟨rfl, ?_⟩
         | refine ⟨(by kernel_rfl : drawOK _ = true), ?_⟩
         | refine Or.inl ?_
         | refine ⟨⟨congrArg (T.int _) ?_, rfl⟩, ?_⟩
         | refine ⟨⟨congrArg T.bool ?_, rfl⟩, ?_⟩
         | refine ⟨⟨rfl, Nat.le_of_ble_eq_true rfl⟩, ?_⟩
         | refine ⟨⟨rfl, rfl⟩, ?_⟩
         | refine ⟨⟨rfl, (by decide)⟩, ?_⟩
         | refine ⟨⟨rfl, ?_⟩, ?_⟩
         | refine ⟨Or.inr rfl, ?_⟩
         | refine ⟨Or.inl rfl, ?_⟩
         | refine ⟨⟨⟨rfl, rfl, rfl⟩, ?_⟩, ?_⟩
         | refine ⟨_, _, rfl, row_get _ _ arith, rfl, ?_⟩
         | refine ⟨Or.inr (by repeat (first | exact trivial | refine ⟨rfl, ?_⟩)), ?_⟩
         | refine ⟨(?_ : _ = ([] : List (List T))), ?_⟩
         | fail))
  all_goals first
    | rfl
    | exact hi.2.trans (same_F (by omega) (by omega) (by assumption))
    | exact (hi.2.trans (same_T (by omega) (by omega) (by assumption))).symm
    | (have h3 := hi.2; rw [List.drop_of_length_le (show xs.length ≤ i by omega), List.drop_of_length_le (show ys.length ≤ i by omega)] at h3; exact h3.symm)
    | trace_state
theorem c_waitC (c : DClient) : FnAt Try.prog 15 [.agg (DClient.e c)] [.one (.s (I (IntKind.i64.wrap (((c.Submitted.map (eL eU)).length : Int) - c.Sent))))] := by
  refine fn_of Try.func15 rfl (by kernel_rfl) rfl ?_
  all_goals repeat' (first
    | (with_reducible rfl)
    | (conv => whnf
       first
         | exact trivial
         | (with_reducible rfl)
         | exact (rfl : (0 : Int) = ((0 : Nat) : Int))
         | exact w64_nat arith
         | refine bcase_T (by first | with_reducible rfl | decide) ?_
         | refine bcase_F (by first | with_reducible rfl | decide) ?_
         | refine bcase_dec (fun _ => ?_) (fun _ => ?_)
         | refine bcase_not ?_
         | refine bcase_intro (fun _ => ?_) (fun _ => ?_)
         | refine ⟨(by with_reducible rfl), ?_⟩
         | refine ⟨congrArg vi ?_, ?_⟩
         | refine ⟨congrArg vb ?_, ?_⟩
         | refine ⟨rfl, ?_⟩
         | refine ⟨(by kernel_rfl : drawOK _ = true), ?_⟩
         | refine Or.inl ?_
         | refine ⟨⟨congrArg (T.int _) ?_, rfl⟩, ?_⟩
         | refine ⟨⟨congrArg T.bool ?_, rfl⟩, ?_⟩
         | refine ⟨⟨rfl, Nat.le_of_ble_eq_true rfl⟩, ?_⟩
         | refine ⟨⟨rfl, rfl⟩, ?_⟩
         | refine ⟨⟨rfl, (by decide)⟩, ?_⟩
         | refine ⟨⟨rfl, ?_⟩, ?_⟩
         | refine ⟨Or.inr rfl, ?_⟩
         | refine ⟨Or.inl rfl, ?_⟩
         | refine ⟨⟨⟨rfl, rfl, rfl⟩, ?_⟩, ?_⟩
         | refine ⟨_, _, rfl, row_get _ _ arith, rfl, ?_⟩
         | refine ⟨Or.inr (by repeat (first | exact trivial | refine ⟨rfl, ?_⟩)), ?_⟩
         | refine ⟨(?_ : _ = ([] : List (List T))), ?_⟩
         | fail))
attribute [local irreducible] readC readsOk writeCell writeRow writes clientOk clientEq rcU IntKind.wrap
theorem bdF {p : Prop} [Decidable p] {x y : Prop} (h : ¬ p) (hy : y) : bcase (decide p) x y := bcase_F (decide_eq_false h) hy
theorem bdT {p : Prop} [Decidable p] {x y : Prop} (h : p) (hx : x) : bcase (decide p) x y := bcase_T (decide_eq_true h) hx
set_option maxHeartbeats 40000000
theorem c_FnClients (a0 : List UInt8) (_ : a0.length ≤ maxLen) : FnAt Try.prog 3 [.one (L eU a0)] [.one (.s (.bool true))] := by
  by_cases hb : a0.length ≤ 1048576
  case neg =>
    refine fn_of Try.func3 rfl (by kernel_rfl) rfl ?_
    all_goals repeat' (first
      | (with_reducible rfl)
      | (conv => whnf
         first
           | refine ⟨_, c_bigC a0, ?_⟩
           | refine bcase_T (by rw [decide_eq_true_eq]; omega) ?_
           | exact trivial
           | (with_reducible rfl)
           | exact (rfl : (0 : Int) = ((0 : Nat) : Int))
           | exact w64_nat arith
           | refine bcase_T (by first | with_reducible rfl | decide) ?_
           | refine bcase_F (by first | with_reducible rfl | decide) ?_
           | refine bcase_dec (fun _ => ?_) (fun _ => ?_)
           | refine bcase_not ?_
           | refine bcase_intro (fun _ => ?_) (fun _ => ?_)
           | refine ⟨(by with_reducible rfl), ?_⟩
           | refine ⟨congrArg vi ?_, ?_⟩
           | refine ⟨congrArg vb ?_, ?_⟩
           | refine ⟨rfl, ?_⟩
           | refine ⟨(by kernel_rfl : drawOK _ = true), ?_⟩
           | refine Or.inl ?_
           | refine ⟨⟨congrArg (T.int _) ?_, rfl⟩, ?_⟩
           | refine ⟨⟨congrArg T.bool ?_, rfl⟩, ?_⟩
           | refine ⟨⟨rfl, Nat.le_of_ble_eq_true rfl⟩, ?_⟩
           | refine ⟨⟨rfl, rfl⟩, ?_⟩
           | refine ⟨⟨rfl, (by decide)⟩, ?_⟩
           | refine ⟨⟨rfl, ?_⟩, ?_⟩
           | refine ⟨Or.inr rfl, ?_⟩
           | refine ⟨Or.inl rfl, ?_⟩
           | refine ⟨⟨⟨rfl, rfl, rfl⟩, ?_⟩, ?_⟩
           | refine ⟨_, _, rfl, row_get _ _ arith, rfl, ?_⟩
           | refine ⟨Or.inr (by repeat (first | exact trivial | refine ⟨rfl, ?_⟩)), ?_⟩
           | refine ⟨(?_ : _ = ([] : List (List T))), ?_⟩
           | fail))
  refine fn_of Try.func3 rfl (by kernel_rfl) rfl ?_
  all_goals repeat' (first
    | (with_reducible rfl)
    | (conv => whnf
       first
         | refine ⟨_, c_bigC a0, ?_⟩
         | refine bcase_F (by rw [decide_eq_false_iff_not]; omega) ?_
         | (refine Or.inr ⟨rfl, Or.inl ?_⟩; (conv => whnf); refine inAt_fnK ?_ (e_DrawClientRead a0 hb) (by rfl); rintro ⟨c, r, own, oth⟩ ⟨hc, ho, hoth⟩; rcases hoth.cases with ⟨ot, rfl, hl⟩ | rfl)
         | exact trivial
         | (with_reducible rfl)
         | exact (rfl : (0 : Int) = ((0 : Nat) : Int))
         | exact w64_nat arith
         | refine bcase_T (by first | with_reducible rfl | decide) ?_
         | refine bcase_F (by first | with_reducible rfl | decide) ?_
         | refine bcase_dec (fun _ => ?_) (fun _ => ?_)
         | refine bcase_not ?_
         | refine bcase_intro (fun _ => ?_) (fun _ => ?_)
         | refine ⟨(by with_reducible rfl), ?_⟩
         | refine ⟨congrArg vi ?_, ?_⟩
         | refine ⟨congrArg vb ?_, ?_⟩
         | refine ⟨rfl, ?_⟩
         | refine ⟨(by kernel_rfl : drawOK _ = true), ?_⟩
         | refine Or.inl ?_
         | refine ⟨⟨congrArg (T.int _) ?_, rfl⟩, ?_⟩
         | refine ⟨⟨congrArg T.bool ?_, rfl⟩, ?_⟩
         | refine ⟨⟨rfl, Nat.le_of_ble_eq_true rfl⟩, ?_⟩
         | refine ⟨⟨rfl, rfl⟩, ?_⟩
         | refine ⟨⟨rfl, (by decide)⟩, ?_⟩
         | refine ⟨⟨rfl, ?_⟩, ?_⟩
         | refine ⟨Or.inr rfl, ?_⟩
         | refine ⟨Or.inl rfl, ?_⟩
         | refine ⟨⟨⟨rfl, rfl, rfl⟩, ?_⟩, ?_⟩
         | refine ⟨_, _, rfl, row_get _ _ arith, rfl, ?_⟩
         | refine ⟨Or.inr (by repeat (first | exact trivial | refine ⟨rfl, ?_⟩)), ?_⟩
         | refine ⟨(?_ : _ = ([] : List (List T))), ?_⟩
         | fail))
  · have hc' : cinv 16 17 c := hc
    have ho' : own.length ≤ 64 := ho
    have hl' : (ot : List UInt8).length ≤ 65 := hl
    clear hc ho hoth
    have hbc := hc'.big (by decide) (by decide)
    dsimp only
    have i0 := c_ClientRead c r own ot hbc (by omega) (by omega)
    have i1 := c_sClientRead c r own ot hbc (by omega) (by omega)
    cases hv : readsOk c r with
    | false =>
      have hx : readC c r own ot = c := by unfold readC; rw [hv]; rfl
      have i2 := c_EqualClients c c hbc
      have hq : clientEq c c = true := by simp only [clientEq, sameOwner, Bool.and_eq_true, decide_eq_true_eq, beq_self_eq_true, and_self]
      rw [hq] at i2
      rw [hv, hx] at i0 i1
      all_goals repeat' (first
        | (with_reducible rfl)
        | (conv => whnf
           first
             | (refine ⟨?_, (?_ : FnAt _ _ _ _), ?_⟩; rotate_left; first | exact i0 | exact i1 | exact i2)
             | exact trivial
             | (with_reducible rfl)
             | exact (rfl : (0 : Int) = ((0 : Nat) : Int))
             | exact w64_nat arith
             | refine bcase_T (by first | with_reducible rfl | decide) ?_
             | refine bcase_F (by first | with_reducible rfl | decide) ?_
             | refine bcase_dec (fun _ => ?_) (fun _ => ?_)
             | refine bcase_not ?_
             | refine bcase_intro (fun _ => ?_) (fun _ => ?_)
             | refine ⟨(by with_reducible rfl), ?_⟩
             | refine ⟨congrArg vi ?_, ?_⟩
             | refine ⟨congrArg vb ?_, ?_⟩
             | refine ⟨rfl, ?_⟩
             | refine ⟨(by kernel_rfl : drawOK _ = true), ?_⟩
             | refine Or.inl ?_
             | refine ⟨⟨congrArg (T.int _) ?_, rfl⟩, ?_⟩
             | refine ⟨⟨congrArg T.bool ?_, rfl⟩, ?_⟩
             | refine ⟨⟨rfl, Nat.le_of_ble_eq_true rfl⟩, ?_⟩
             | refine ⟨⟨rfl, rfl⟩, ?_⟩
             | refine ⟨⟨rfl, (by decide)⟩, ?_⟩
             | refine ⟨⟨rfl, ?_⟩, ?_⟩
             | refine ⟨Or.inr rfl, ?_⟩
             | refine ⟨Or.inl rfl, ?_⟩
             | refine ⟨⟨⟨rfl, rfl, rfl⟩, ?_⟩, ?_⟩
             | refine ⟨_, _, rfl, row_get _ _ arith, rfl, ?_⟩
             | refine ⟨Or.inr (by repeat (first | exact trivial | refine ⟨rfl, ?_⟩)), ?_⟩
             | refine ⟨(?_ : _ = ([] : List (List T))), ?_⟩
             | fail))
      all_goals (try rfl)
    | true =>
      obtain ⟨v1, v2, v3, v4⟩ := reads_parts hv
      have w1 := writes16 v1 v3 (by omega)
      have hvx := readC_ok r own ot v1
      have hbx : bigC (readC c r own ot) := readC_big r own ot hbc
      have hwr : IntKind.i64.wrap (r + 1) = r + 1 := w64_ok (by omega) (by omega)
      have w2 := writes16 hvx (show 0 ≤ IntKind.i64.wrap (r + 1) by omega) (by omega)
      have hxe : readC c r own ot = { c with Sent := readSent c own, Inbox := readInbox c ot, Next := r + 1 } := by unfold readC; rw [hv]; rfl
      have hS0 := (clientOk_iff.1 v1).2.2.2.1
      have f1 : (readC c r own ot).Sent = readSent c own := by rw [hxe]
      have f2 : (readC c r own ot).Next = IntKind.i64.wrap (r + 1) := by rw [hxe, hwr]
      have f3 : (readC c r own ot).Inbox.length = (readInbox c ot).length := by rw [hxe]
      have f4 := inbox_len c ot
      have f5 : readsOk (readC c r own ot) (IntKind.i64.wrap (r + 1)) = true → (readC (readC c r own ot) (IntKind.i64.wrap (r + 1)) own ot).Inbox.length = (readC c r own ot).Inbox.length := fun h => read_twice hv h
      have f6 := readSent_le own hS0.1 hS0.2
      have f7 := writeCell_24 w2
      have f8 := writeRow_16 w2 (by omega) (by omega)
      have f9 : c.Inbox.length ≤ 17 := hc'.inb.1
      have g0 : c.Submitted.length ≤ 16 := hc'.sub.1
      have hws : IntKind.i64.wrap (c.Sent + 1) = c.Sent + 1 := w64_ok (by omega) (by omega)
      have p1 : c.Sent < ((c.Submitted.map (eL eU)).length : Int) → decide ((readC c r own ot).Sent = IntKind.i64.wrap (c.Sent + 1)) = (own == writeCell c r 16) := fun h => by
        rw [f1, hws]; exact sent_pubT w1 hS0.1 (by rw [List.length_map] at h; exact h)
      have p2 : ¬ c.Sent < ((c.Submitted.map (eL eU)).length : Int) → decide ((readC c r own ot).Sent = IntKind.i64.wrap (c.Sent + 1)) = false := fun h => by
        rw [f1, hws, sent_pubF hS0.1 (by rw [List.length_map] at h; exact h)]; exact decide_eq_false (by omega)
      rw [hv] at i0 i1
      have i3 := c_ClientWrite c r 16 hbc
      rw [w1] at i3
      have i4 := c_sameB own (writeCell c r 16) (by omega)
      have i5 := c_ClientRead (readC c r own ot) (IntKind.i64.wrap (r + 1)) own ot hbx (by omega) (by omega)
      have i6 := c_ClientWrite (readC c r own ot) (IntKind.i64.wrap (r + 1)) 16 hbx
      rw [w2] at i6
      have i7 := c_IsValidClient (readC c r own ot) hbx
      rw [hvx] at i7
      have i8 := c_waitC (readC c r own ot)
      have hm1 : ((readC c r own ot).Inbox.map (eL eU)).length = (readC c r own ot).Inbox.length := List.length_map _
      have hm2 : (c.Inbox.map (eL eU)).length = c.Inbox.length := List.length_map _
      have hm3 : ((readC (readC c r own ot) (IntKind.i64.wrap (r + 1)) own ot).Inbox.map (eL eU)).length = (readC (readC c r own ot) (IntKind.i64.wrap (r + 1)) own ot).Inbox.length := List.length_map _
      have hm4 : ((writeCell (readC c r own ot) (IntKind.i64.wrap (r + 1)) 16).map eU).length = (writeCell (readC c r own ot) (IntKind.i64.wrap (r + 1)) 16).length := List.length_map _
      have hwi : IntKind.i64.wrap (((c.Inbox.map (eL eU)).length : Int) + 1) = (c.Inbox.length : Int) + 1 := by rw [hm2]; exact w64_ok (by omega) (by omega)
      clear hxe hv hvx hbx w1 w2 v1 hc' ho' hl' hbc
      generalize writeCell (readC c r own ot) (IntKind.i64.wrap (r + 1)) 16 = z at *
      generalize writeRow (readC c r own ot) (IntKind.i64.wrap (r + 1)) 16 = row at *
      generalize readC (readC c r own ot) (IntKind.i64.wrap (r + 1)) own ot = y at *
      generalize readsOk (readC c r own ot) (IntKind.i64.wrap (r + 1)) = again at *
      generalize readC c r own ot = x at *
      generalize (own == writeCell c r 16) = q at *
      generalize writeCell c r 16 = cell at *
      generalize writeRow c r 16 = row0 at *
      all_goals repeat' (first
        | (with_reducible rfl)
        | (conv => whnf
           first
             | (refine ⟨?_, (?_ : FnAt _ _ _ _), ?_⟩; rotate_left; first | exact i0 | exact i1 | exact i3 | exact i4 | exact i5 | exact i6 | exact i7 | exact i8)
             | refine bcase_F (by first | (rw [← p1 (by assumption)]; exact bne_self_eq_false _) | (rw [← p2 (by assumption)]; exact bne_self_eq_false _)) ?_
             | refine bdF (by omega) ?_
             | refine bdT (by omega) ?_
             | (have h5 := f5 (by assumption); refine bdT (by omega) ?_)
             | exact trivial
             | (with_reducible rfl)
             | exact (rfl : (0 : Int) = ((0 : Nat) : Int))
             | exact w64_nat arith
             | refine bcase_T (by first | with_reducible rfl | decide) ?_
             | refine bcase_F (by first | with_reducible rfl | decide) ?_
             | refine bcase_dec (fun _ => ?_) (fun _ => ?_)
             | refine bcase_not ?_
             | refine bcase_intro (fun _ => ?_) (fun _ => ?_)
             | refine ⟨(by with_reducible rfl), ?_⟩
             | refine ⟨congrArg vi ?_, ?_⟩
             | refine ⟨congrArg vb ?_, ?_⟩
             | refine ⟨rfl, ?_⟩
             | refine ⟨(by kernel_rfl : drawOK _ = true), ?_⟩
             | refine Or.inl ?_
             | refine ⟨⟨congrArg (T.int _) ?_, rfl⟩, ?_⟩
             | refine ⟨⟨congrArg T.bool ?_, rfl⟩, ?_⟩
             | refine ⟨⟨rfl, Nat.le_of_ble_eq_true rfl⟩, ?_⟩
             | refine ⟨⟨rfl, rfl⟩, ?_⟩
             | refine ⟨⟨rfl, (by decide)⟩, ?_⟩
             | refine ⟨⟨rfl, ?_⟩, ?_⟩
             | refine ⟨Or.inr rfl, ?_⟩
             | refine ⟨Or.inl rfl, ?_⟩
             | refine ⟨⟨⟨rfl, rfl, rfl⟩, ?_⟩, ?_⟩
             | refine ⟨_, _, rfl, row_get _ _ arith, rfl, ?_⟩
             | refine ⟨Or.inr (by repeat (first | exact trivial | refine ⟨rfl, ?_⟩)), ?_⟩
             | refine ⟨(?_ : _ = ([] : List (List T))), ?_⟩
             | fail))
      all_goals first
        | exact beq_self_eq_true _
        | rfl
        | (exfalso; have h5 := f5 (by assumption); omega)
        | (exfalso; have h := p2 (by assumption); rename_i hz; exact hz h)
        | (exfalso; omega)
        | trace_state
  · have hc' : cinv 16 17 c := hc
    have ho' : own.length ≤ 64 := ho
    have hl' : ([] : List UInt8).length ≤ 65 := (by decide)
    clear hc ho hoth
    have hbc := hc'.big (by decide) (by decide)
    dsimp only
    have i0 := c_ClientRead c r own [] hbc (by omega) (by omega)
    have i1 := c_sClientRead c r own [] hbc (by omega) (by omega)
    cases hv : readsOk c r with
    | false =>
      have hx : readC c r own [] = c := by unfold readC; rw [hv]; rfl
      have i2 := c_EqualClients c c hbc
      have hq : clientEq c c = true := by simp only [clientEq, sameOwner, Bool.and_eq_true, decide_eq_true_eq, beq_self_eq_true, and_self]
      rw [hq] at i2
      rw [hv, hx] at i0 i1
      all_goals repeat' (first
        | (with_reducible rfl)
        | (conv => whnf
           first
             | (refine ⟨?_, (?_ : FnAt _ _ _ _), ?_⟩; rotate_left; first | exact i0 | exact i1 | exact i2)
             | exact trivial
             | (with_reducible rfl)
             | exact (rfl : (0 : Int) = ((0 : Nat) : Int))
             | exact w64_nat arith
             | refine bcase_T (by first | with_reducible rfl | decide) ?_
             | refine bcase_F (by first | with_reducible rfl | decide) ?_
             | refine bcase_dec (fun _ => ?_) (fun _ => ?_)
             | refine bcase_not ?_
             | refine bcase_intro (fun _ => ?_) (fun _ => ?_)
             | refine ⟨(by with_reducible rfl), ?_⟩
             | refine ⟨congrArg vi ?_, ?_⟩
             | refine ⟨congrArg vb ?_, ?_⟩
             | refine ⟨rfl, ?_⟩
             | refine ⟨(by kernel_rfl : drawOK _ = true), ?_⟩
             | refine Or.inl ?_
             | refine ⟨⟨congrArg (T.int _) ?_, rfl⟩, ?_⟩
             | refine ⟨⟨congrArg T.bool ?_, rfl⟩, ?_⟩
             | refine ⟨⟨rfl, Nat.le_of_ble_eq_true rfl⟩, ?_⟩
             | refine ⟨⟨rfl, rfl⟩, ?_⟩
             | refine ⟨⟨rfl, (by decide)⟩, ?_⟩
             | refine ⟨⟨rfl, ?_⟩, ?_⟩
             | refine ⟨Or.inr rfl, ?_⟩
             | refine ⟨Or.inl rfl, ?_⟩
             | refine ⟨⟨⟨rfl, rfl, rfl⟩, ?_⟩, ?_⟩
             | refine ⟨_, _, rfl, row_get _ _ arith, rfl, ?_⟩
             | refine ⟨Or.inr (by repeat (first | exact trivial | refine ⟨rfl, ?_⟩)), ?_⟩
             | refine ⟨(?_ : _ = ([] : List (List T))), ?_⟩
             | fail))
      all_goals (try rfl)
    | true =>
      obtain ⟨v1, v2, v3, v4⟩ := reads_parts hv
      have w1 := writes16 v1 v3 (by omega)
      have hvx := readC_ok r own [] v1
      have hbx : bigC (readC c r own []) := readC_big r own [] hbc
      have hwr : IntKind.i64.wrap (r + 1) = r + 1 := w64_ok (by omega) (by omega)
      have w2 := writes16 hvx (show 0 ≤ IntKind.i64.wrap (r + 1) by omega) (by omega)
      have hxe : readC c r own [] = { c with Sent := readSent c own, Inbox := readInbox c [], Next := r + 1 } := by unfold readC; rw [hv]; rfl
      have hS0 := (clientOk_iff.1 v1).2.2.2.1
      have f1 : (readC c r own []).Sent = readSent c own := by rw [hxe]
      have f2 : (readC c r own []).Next = IntKind.i64.wrap (r + 1) := by rw [hxe, hwr]
      have f3 : (readC c r own []).Inbox.length = (readInbox c []).length := by rw [hxe]
      have f4 := inbox_len c []
      have f5 : readsOk (readC c r own []) (IntKind.i64.wrap (r + 1)) = true → (readC (readC c r own []) (IntKind.i64.wrap (r + 1)) own []).Inbox.length = (readC c r own []).Inbox.length := fun h => read_twice hv h
      have f6 := readSent_le own hS0.1 hS0.2
      have f7 := writeCell_24 w2
      have f8 := writeRow_16 w2 (by omega) (by omega)
      have f9 : c.Inbox.length ≤ 17 := hc'.inb.1
      have g0 : c.Submitted.length ≤ 16 := hc'.sub.1
      have hws : IntKind.i64.wrap (c.Sent + 1) = c.Sent + 1 := w64_ok (by omega) (by omega)
      have p1 : c.Sent < ((c.Submitted.map (eL eU)).length : Int) → decide ((readC c r own []).Sent = IntKind.i64.wrap (c.Sent + 1)) = (own == writeCell c r 16) := fun h => by
        rw [f1, hws]; exact sent_pubT w1 hS0.1 (by rw [List.length_map] at h; exact h)
      have p2 : ¬ c.Sent < ((c.Submitted.map (eL eU)).length : Int) → decide ((readC c r own []).Sent = IntKind.i64.wrap (c.Sent + 1)) = false := fun h => by
        rw [f1, hws, sent_pubF hS0.1 (by rw [List.length_map] at h; exact h)]; exact decide_eq_false (by omega)
      rw [hv] at i0 i1
      have i3 := c_ClientWrite c r 16 hbc
      rw [w1] at i3
      have i4 := c_sameB own (writeCell c r 16) (by omega)
      have i5 := c_ClientRead (readC c r own []) (IntKind.i64.wrap (r + 1)) own [] hbx (by omega) (by omega)
      have i6 := c_ClientWrite (readC c r own []) (IntKind.i64.wrap (r + 1)) 16 hbx
      rw [w2] at i6
      have i7 := c_IsValidClient (readC c r own []) hbx
      rw [hvx] at i7
      have i8 := c_waitC (readC c r own [])
      have hm1 : ((readC c r own []).Inbox.map (eL eU)).length = (readC c r own []).Inbox.length := List.length_map _
      have hm2 : (c.Inbox.map (eL eU)).length = c.Inbox.length := List.length_map _
      have hm3 : ((readC (readC c r own []) (IntKind.i64.wrap (r + 1)) own []).Inbox.map (eL eU)).length = (readC (readC c r own []) (IntKind.i64.wrap (r + 1)) own []).Inbox.length := List.length_map _
      have hm4 : ((writeCell (readC c r own []) (IntKind.i64.wrap (r + 1)) 16).map eU).length = (writeCell (readC c r own []) (IntKind.i64.wrap (r + 1)) 16).length := List.length_map _
      have hwi : IntKind.i64.wrap (((c.Inbox.map (eL eU)).length : Int) + 1) = (c.Inbox.length : Int) + 1 := by rw [hm2]; exact w64_ok (by omega) (by omega)
      clear hxe hv hvx hbx w1 w2 v1 hc' ho' hl' hbc
      generalize writeCell (readC c r own []) (IntKind.i64.wrap (r + 1)) 16 = z at *
      generalize writeRow (readC c r own []) (IntKind.i64.wrap (r + 1)) 16 = row at *
      generalize readC (readC c r own []) (IntKind.i64.wrap (r + 1)) own [] = y at *
      generalize readsOk (readC c r own []) (IntKind.i64.wrap (r + 1)) = again at *
      generalize readC c r own [] = x at *
      generalize (own == writeCell c r 16) = q at *
      generalize writeCell c r 16 = cell at *
      generalize writeRow c r 16 = row0 at *
      all_goals repeat' (first
        | (with_reducible rfl)
        | (conv => whnf
           first
             | (refine ⟨?_, (?_ : FnAt _ _ _ _), ?_⟩; rotate_left; first | exact i0 | exact i1 | exact i3 | exact i4 | exact i5 | exact i6 | exact i7 | exact i8)
             | refine bcase_F (by first | (rw [← p1 (by assumption)]; exact bne_self_eq_false _) | (rw [← p2 (by assumption)]; exact bne_self_eq_false _)) ?_
             | refine bdF (by omega) ?_
             | refine bdT (by omega) ?_
             | (have h5 := f5 (by assumption); refine bdT (by omega) ?_)
             | exact trivial
             | (with_reducible rfl)
             | exact (rfl : (0 : Int) = ((0 : Nat) : Int))
             | exact w64_nat arith
             | refine bcase_T (by first | with_reducible rfl | decide) ?_
             | refine bcase_F (by first | with_reducible rfl | decide) ?_
             | refine bcase_dec (fun _ => ?_) (fun _ => ?_)
             | refine bcase_not ?_
             | refine bcase_intro (fun _ => ?_) (fun _ => ?_)
             | refine ⟨(by with_reducible rfl), ?_⟩
             | refine ⟨congrArg vi ?_, ?_⟩
             | refine ⟨congrArg vb ?_, ?_⟩
             | refine ⟨rfl, ?_⟩
             | refine ⟨(by kernel_rfl : drawOK _ = true), ?_⟩
             | refine Or.inl ?_
             | refine ⟨⟨congrArg (T.int _) ?_, rfl⟩, ?_⟩
             | refine ⟨⟨congrArg T.bool ?_, rfl⟩, ?_⟩
             | refine ⟨⟨rfl, Nat.le_of_ble_eq_true rfl⟩, ?_⟩
             | refine ⟨⟨rfl, rfl⟩, ?_⟩
             | refine ⟨⟨rfl, (by decide)⟩, ?_⟩
             | refine ⟨⟨rfl, ?_⟩, ?_⟩
             | refine ⟨Or.inr rfl, ?_⟩
             | refine ⟨Or.inl rfl, ?_⟩
             | refine ⟨⟨⟨rfl, rfl, rfl⟩, ?_⟩, ?_⟩
             | refine ⟨_, _, rfl, row_get _ _ arith, rfl, ?_⟩
             | refine ⟨Or.inr (by repeat (first | exact trivial | refine ⟨rfl, ?_⟩)), ?_⟩
             | refine ⟨(?_ : _ = ([] : List (List T))), ?_⟩
             | fail))
      all_goals first
        | exact beq_self_eq_true _
        | rfl
        | (exfalso; have h5 := f5 (by assumption); omega)
        | (exfalso; have h := p2 (by assumption); rename_i hz; exact hz h)
        | (exfalso; omega)
        | trace_state
end Go.Proofs.Ytdbgmncapignoaa
