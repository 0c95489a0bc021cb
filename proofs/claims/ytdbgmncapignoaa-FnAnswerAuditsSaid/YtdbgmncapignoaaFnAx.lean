/-
  Contract: the statement about the audit of signed answers.
  Conditions: none.
-/
import Derived.Test.YtdbgmncapignoaaFnAq
import Derived.Test.YtdbgmncapignoaaFnAw
namespace Go.Proofs.Ytdbgmncapignoaa
set_option maxHeartbeats 4000000
set_option maxRecDepth 20000
open Go.Vm Go.RowKit
attribute [local irreducible] FnAt MutAt InAt JAt CurAt FnE CurE RegAt
theorem c_containsI (xs : List Int) (x : Int) (hx : xs.length ≤ 1099511627776) : FnAt Try.prog 31 [.one (L eI xs), .one (I x)] [.one (.s (.bool (hasI xs x)))] := by
  refine fn_of Try.func31 rfl (by kernel_rfl) rfl ?_
  all_goals repeat' (first
    | (with_reducible rfl)
    | (conv => whnf
       first
         | exact trivial
         | (with_reducible rfl)
         | exact (rfl : (0 : Int) = ((0 : Nat) : Int))
         | exact w64_nat arith
         | refine bcase_T (by first | with_reducible rfl | decide) ?_
         | refine bcase_F (by first | with_reducible rfl | decide) ?_
         | refine bcase_dec (fun _ => ?_) (fun _ => ?_)
         | refine bcase_not ?_
         | refine bcase_intro (fun _ => ?_) (fun _ => ?_)
         | refine ⟨(by with_reducible rfl), ?_⟩
         | refine ⟨congrArg vi ?_, ?_⟩
         | refine ⟨congrArg vb ?_, ?_⟩
         | refine ⟨rfl, ?_⟩
         | refine ⟨(by kernel_rfl : drawOK _ = true), ?_⟩
         | refine Or.inl ?_
         | refine ⟨⟨congrArg (T.int _) ?_, rfl⟩, ?_⟩
         | refine ⟨⟨congrArg T.bool ?_, rfl⟩, ?_⟩
         | refine ⟨⟨rfl, Nat.le_of_ble_eq_true rfl⟩, ?_⟩
         | refine ⟨⟨rfl, rfl⟩, ?_⟩
         | refine ⟨⟨rfl, (by decide)⟩, ?_⟩
         | refine ⟨⟨rfl, ?_⟩, ?_⟩
         | refine ⟨Or.inr rfl, ?_⟩
         | refine ⟨Or.inl rfl, ?_⟩
         | refine ⟨⟨⟨rfl, rfl, rfl⟩, ?_⟩, ?_⟩
         | refine ⟨_, _, rfl, row_get _ _ arith, rfl, ?_⟩
         | refine ⟨Or.inr (by repeat (first | exact trivial | refine ⟨rfl, ?_⟩)), ?_⟩
         | refine ⟨(?_ : _ = ([] : List (List T))), ?_⟩
         | fail))
  conv => whnf
  refine ⟨Nat, fun i => i ≤ xs.length ∧ hasI xs x = hasI (xs.drop i) x, fun i => ⟨[(0, vl (xs.map eI)), (1, vi x), (5, vi i)], [], 0⟩, fun i => xs.length - i, 0, ⟨Nat.zero_le _, rfl⟩, ⟨[], rfl, rfl, rfl, ?_, ?_⟩, fun i hi => ?_⟩
  all_goals repeat' (first
    | (with_reducible rfl)
    | (conv => whnf
       first
         | exact trivial
         | (with_reducible rfl)
         | exact (rfl : (0 : Int) = ((0 : Nat) : Int))
         | exact w64_nat arith
         | refine bcase_T (by first | with_reducible rfl | decide) ?_
         | refine bcase_F (by first | with_reducible rfl | decide) ?_
         | refine bcase_dec (fun _ => ?_) (fun _ => ?_)
         | refine bcase_not ?_
         | refine bcase_intro (fun _ => ?_) (fun _ => ?_)
         | refine ⟨(by with_reducible rfl), ?_⟩
         | refine ⟨congrArg vi ?_, ?_⟩
         | refine ⟨congrArg vb ?_, ?_⟩
         | refine ⟨rfl, ?_⟩
         | refine ⟨(by kernel_rfl : drawOK _ = true), ?_⟩
         | refine Or.inl ?_
         | refine ⟨⟨congrArg (T.int _) ?_, rfl⟩, ?_⟩
         | refine ⟨⟨congrArg T.bool ?_, rfl⟩, ?_⟩
         | refine ⟨⟨rfl, Nat.le_of_ble_eq_true rfl⟩, ?_⟩
         | refine ⟨⟨rfl, rfl⟩, ?_⟩
         | refine ⟨⟨rfl, (by decide)⟩, ?_⟩
         | refine ⟨⟨rfl, ?_⟩, ?_⟩
         | refine ⟨Or.inr rfl, ?_⟩
         | refine ⟨Or.inl rfl, ?_⟩
         | refine ⟨⟨⟨rfl, rfl, rfl⟩, ?_⟩, ?_⟩
         | refine ⟨_, _, rfl, row_get _ _ arith, rfl, ?_⟩
         | refine ⟨Or.inr (by repeat (first | exact trivial | refine ⟨rfl, ?_⟩)), ?_⟩
         | refine ⟨(?_ : _ = ([] : List (List T))), ?_⟩
         | refine ⟨i + 1, ⟨⟨arith, ?_⟩, arith⟩, ⟨[], rfl, rfl, rfl, ?_, ?_⟩⟩
         | fail))
  all_goals first
    | (rw [List.length_map]; done)
    | exact (hi.2.trans (hasI_T (i := i) (lt_map (by assumption)) (by assumption))).symm
    | exact hi.2.trans (hasI_F (i := i) (lt_map (by assumption)) (by assumption))
    | exact (hi.2.trans (hasI_end (i := i) (Nat.le_of_not_lt fun h => (by assumption : ¬ ((i : Int) < ((xs.map eI).length : Int))) (by rw [List.length_map]; exact Int.ofNat_lt.2 h)))).symm
theorem c_bigA (b : List UInt8) : FnAt Try.prog 7 [.one (L eU b)] [.one (.s (.bool (decide (1048576 < (b.length : Int)))))] := by
  have hm : (b.map eU).length = b.length := List.length_map eU
  refine fn_of Try.func7 rfl (by kernel_rfl) rfl ?_
  all_goals repeat' (first
    | (with_reducible rfl)
    | (conv => whnf
       first
         | exact trivial
         | (with_reducible rfl)
         | exact (rfl : (0 : Int) = ((0 : Nat) : Int))
         | exact w64_nat arith
         | refine bcase_T (by first | with_reducible rfl | decide) ?_
         | refine bcase_F (by first | with_reducible rfl | decide) ?_
         | refine bcase_dec (fun _ => ?_) (fun _ => ?_)
         | refine bcase_not ?_
         | refine bcase_intro (fun _ => ?_) (fun _ => ?_)
         | refine ⟨(by with_reducible rfl), ?_⟩
         | refine ⟨congrArg vi ?_, ?_⟩
         | refine ⟨congrArg vb ?_, ?_⟩
         | refine ⟨rfl, ?_⟩
         | refine ⟨(by kernel_rfl : drawOK _ = true), ?_⟩
         | refine Or.inl ?_
         | refine ⟨⟨congrArg (T.int _) ?_, rfl⟩, ?_⟩
         | refine ⟨⟨congrArg T.bool ?_, rfl⟩, ?_⟩
         | refine ⟨⟨rfl, Nat.le_of_ble_eq_true rfl⟩, ?_⟩
         | refine ⟨⟨rfl, rfl⟩, ?_⟩
         | refine ⟨⟨rfl, (by decide)⟩, ?_⟩
         | refine ⟨⟨rfl, ?_⟩, ?_⟩
         | refine ⟨Or.inr rfl, ?_⟩
         | refine ⟨Or.inl rfl, ?_⟩
         | refine ⟨⟨⟨rfl, rfl, rfl⟩, ?_⟩, ?_⟩
         | refine ⟨_, _, rfl, row_get _ _ arith, rfl, ?_⟩
         | refine ⟨Or.inr (by repeat (first | exact trivial | refine ⟨rfl, ?_⟩)), ?_⟩
         | refine ⟨(?_ : _ = ([] : List (List T))), ?_⟩
         | fail))
  all_goals (rw [hm])
attribute [local irreducible] falseAns servKey
def fnd (m : Int) (d : DDatabase) (l : List DSignedAnswer) (x : Int) : Nat → Bool
  | 0 => false
  | k + 1 => fnd m d l x k || (match l[k]? with
    | some a => decide (a.Server = x) && falseAns (servKey m x) d a
    | none => false)
theorem fnd_up {m : Int} {d : DDatabase} {l : List DSignedAnswer} {x : Int} {k n : Nat} (h : fnd m d l x k = true) (hn : k ≤ n) : fnd m d l x n = true := by
  induction n with
  | zero => have : k = 0 := by omega
            subst this; exact h
  | succ n ih =>
    by_cases e : k = n + 1
    · subst e; exact h
    · simp only [fnd, ih (by omega), Bool.true_or]
theorem fnd_at {m : Int} {d : DDatabase} {l : List DSignedAnswer} {x : Int} {k : Nat} (h : k < l.length) (h1 : l[k].Server = x) (h2 : auB m d l[k] = true) : fnd m d l x l.length = true := by
  refine fnd_up (k := k + 1) ?_ h
  unfold auB at h2
  rw [h1] at h2
  simp only [fnd, List.getElem?_eq_getElem h, h1, h2, decide_true, Bool.true_and, Bool.or_true]
theorem fnd_all {m : Int} {d : DDatabase} {l : List DSignedAnswer} {i : Nat} (h : i < (auS m d l l.length).length) : fnd m d l (auS m d l l.length)[i] l.length = true := by
  obtain ⟨k, hk, _, h1, h2⟩ := auS_from l.length (List.getElem_mem h)
  exact fnd_at hk h1 h2
theorem fnd_succ {m : Int} {d : DDatabase} {l : List DSignedAnswer} {x : Int} {k : Nat} (h : k < l.length) : fnd m d l x (k + 1) = (fnd m d l x k || (decide (l[k].Server = x) && falseAns (servKey m x) d l[k])) := by
  simp only [fnd, List.getElem?_eq_getElem h]
theorem c_FnAnswerAudits (a0 : List UInt8) (_ : a0.length ≤ maxLen) : FnAt Try.prog 6 [.one (L eU a0)] [.one (.s (.bool true))] := by
  by_cases hb : a0.length ≤ 1048576
  case neg =>
    refine fn_of Try.func6 rfl (by kernel_rfl) rfl ?_
    all_goals repeat' (first
      | (with_reducible rfl)
      | (conv => whnf
         first
           | refine ⟨_, c_bigA a0, ?_⟩
           | refine bcase_T (by rw [decide_eq_true_eq]; omega) ?_
           | exact trivial
           | (with_reducible rfl)
           | exact (rfl : (0 : Int) = ((0 : Nat) : Int))
           | exact w64_nat arith
           | refine bcase_T (by first | with_reducible rfl | decide) ?_
           | refine bcase_F (by first | with_reducible rfl | decide) ?_
           | refine bcase_dec (fun _ => ?_) (fun _ => ?_)
           | refine bcase_not ?_
           | refine bcase_intro (fun _ => ?_) (fun _ => ?_)
           | refine ⟨(by with_reducible rfl), ?_⟩
           | refine ⟨congrArg vi ?_, ?_⟩
           | refine ⟨congrArg vb ?_, ?_⟩
           | refine ⟨rfl, ?_⟩
           | refine ⟨(by kernel_rfl : drawOK _ = true), ?_⟩
           | refine Or.inl ?_
           | refine ⟨⟨congrArg (T.int _) ?_, rfl⟩, ?_⟩
           | refine ⟨⟨congrArg T.bool ?_, rfl⟩, ?_⟩
           | refine ⟨⟨rfl, Nat.le_of_ble_eq_true rfl⟩, ?_⟩
           | refine ⟨⟨rfl, rfl⟩, ?_⟩
           | refine ⟨⟨rfl, (by decide)⟩, ?_⟩
           | refine ⟨⟨rfl, ?_⟩, ?_⟩
           | refine ⟨Or.inr rfl, ?_⟩
           | refine ⟨Or.inl rfl, ?_⟩
           | refine ⟨⟨⟨rfl, rfl, rfl⟩, ?_⟩, ?_⟩
           | refine ⟨_, _, rfl, row_get _ _ arith, rfl, ?_⟩
           | refine ⟨Or.inr (by repeat (first | exact trivial | refine ⟨rfl, ?_⟩)), ?_⟩
           | refine ⟨(?_ : _ = ([] : List (List T))), ?_⟩
           | fail))
  refine fn_of Try.func6 rfl (by kernel_rfl) rfl ?_
  all_goals repeat' (first
    | (with_reducible rfl)
    | (conv => whnf
       first
         | refine ⟨_, c_bigA a0, ?_⟩
         | refine bcase_F (by rw [decide_eq_false_iff_not]; omega) ?_
         | (refine Or.inr ⟨rfl, Or.inl ?_⟩; (conv => whnf); refine inAt_fnK ?_ (e_DrawAuditAnswers a0 hb) (by rfl); rintro ⟨m, d, l⟩ ⟨hd, hl, hll⟩)
         | refine ⟨_, c_AuditAnswersS m d l hd hl, ?_⟩
         | refine ⟨_, c_sAuditAnswers m d l hd hl, ?_⟩
         | refine bcase_F (bne_eq_false_iff_eq.2 rfl) ?_
         | exact trivial
         | (with_reducible rfl)
         | exact (rfl : (0 : Int) = ((0 : Nat) : Int))
         | exact w64_nat arith
         | refine bcase_T (by first | with_reducible rfl | decide) ?_
         | refine bcase_F (by first | with_reducible rfl | decide) ?_
         | refine bcase_dec (fun _ => ?_) (fun _ => ?_)
         | refine bcase_not ?_
         | refine bcase_intro (fun _ => ?_) (fun _ => ?_)
         | refine ⟨(by with_reducible rfl), ?_⟩
         | refine ⟨congrArg vi ?_, ?_⟩
         | refine ⟨congrArg vb ?_, ?_⟩
         | refine ⟨rfl, ?_⟩
         | refine ⟨(by kernel_rfl : drawOK _ = true), ?_⟩
         | refine Or.inl ?_
         | refine ⟨⟨congrArg (T.int _) ?_, rfl⟩, ?_⟩
         | refine ⟨⟨congrArg T.bool ?_, rfl⟩, ?_⟩
         | refine ⟨⟨rfl, Nat.le_of_ble_eq_true rfl⟩, ?_⟩
         | refine ⟨⟨rfl, rfl⟩, ?_⟩
         | refine ⟨⟨rfl, (by decide)⟩, ?_⟩
         | refine ⟨⟨rfl, ?_⟩, ?_⟩
         | refine ⟨Or.inr rfl, ?_⟩
         | refine ⟨Or.inl rfl, ?_⟩
         | refine ⟨⟨⟨rfl, rfl, rfl⟩, ?_⟩, ?_⟩
         | refine ⟨_, _, rfl, row_get _ _ arith, rfl, ?_⟩
         | refine ⟨Or.inr (by repeat (first | exact trivial | refine ⟨rfl, ?_⟩)), ?_⟩
         | refine ⟨(?_ : _ = ([] : List (List T))), ?_⟩
         | fail))
  all_goals
    have hd' : bigB d.Rows := hd
    have hl' : bigAs l := hl
    have hll' : l.length ≤ 6 := hll
    have hal := auS_len (m := m) (d := d) (l := l) l.length
    have hlt := fun i h => auS_lt (m := m) (d := d) (l := l) (n := l.length) (i := i) h
    have hfn := fun i h => fnd_all (m := m) (d := d) (l := l) (i := i) h
    have hhs := fun i h hb => hasI_iff.2 (auS_has (m := m) (d := d) (l := l) (i := i) h hb l.length h)
    have hm := lenm DSignedAnswer.e l
    have hmx : ((auS m d l l.length).map eI).length = (auS m d l l.length).length := List.length_map _
  all_goals (conv => whnf)
  all_goals refine ⟨Nat, fun i => i ≤ l.length, fun i => ⟨[(3, vi m), (4, .ptr 0 0), (5, .c (.ref 2)), (6, .c (.ref 3)), (7, vi i)], [(0, .box [.ref 1]), (1, .row true true 1 (d.Rows.map (eL eU))), (2, .row true true 5 (l.map DSignedAnswer.e)), (3, .row true true 1 ((auS m d l l.length).map eI))], 4⟩, fun i => l.length - i, 0, Nat.zero_le _, sub_at2 [(0, 4, 0), (1, 4, 1), (2, 5, 0), (3, 6, 0)] rfl rfl rfl ?_ ?_, fun i (hi : i ≤ l.length) => ?_⟩
  all_goals repeat' (first
    | (with_reducible rfl)
    | (conv => whnf
       first
         | refine ⟨i, rfl, (by omega), ?_⟩
         | refine ⟨_, row_get DSignedAnswer.e l (by omega), ?_⟩
         | refine ⟨_, c_ServerKey _ _, ?_⟩
         | refine ⟨_, c_IsFalseAnswer (servKey m (l[i]'(by omega)).Server) d (l[i]'(by omega)) hd' (hl'.2 _ (List.getElem_mem _)).1 (hl'.2 _ (List.getElem_mem _)).2, ?_⟩
         | refine ⟨_, c_containsI (auS m d l l.length) _ (by omega), ?_⟩
         | refine ⟨i + 1, ⟨arith, arith⟩, sub_at2 [(0, 4, 0), (1, 4, 1), (2, 5, 0), (3, 6, 0)] rfl rfl rfl ?_ ?_⟩
         | exact trivial
         | (with_reducible rfl)
         | exact (rfl : (0 : Int) = ((0 : Nat) : Int))
         | exact w64_nat arith
         | refine bcase_T (by first | with_reducible rfl | decide) ?_
         | refine bcase_F (by first | with_reducible rfl | decide) ?_
         | refine bcase_dec (fun _ => ?_) (fun _ => ?_)
         | refine bcase_not ?_
         | refine bcase_intro (fun _ => ?_) (fun _ => ?_)
         | refine ⟨(by with_reducible rfl), ?_⟩
         | refine ⟨congrArg vi ?_, ?_⟩
         | refine ⟨congrArg vb ?_, ?_⟩
         | refine ⟨rfl, ?_⟩
         | refine ⟨(by kernel_rfl : drawOK _ = true), ?_⟩
         | refine Or.inl ?_
         | refine ⟨⟨congrArg (T.int _) ?_, rfl⟩, ?_⟩
         | refine ⟨⟨congrArg T.bool ?_, rfl⟩, ?_⟩
         | refine ⟨⟨rfl, Nat.le_of_ble_eq_true rfl⟩, ?_⟩
         | refine ⟨⟨rfl, rfl⟩, ?_⟩
         | refine ⟨⟨rfl, (by decide)⟩, ?_⟩
         | refine ⟨⟨rfl, ?_⟩, ?_⟩
         | refine ⟨Or.inr rfl, ?_⟩
         | refine ⟨Or.inl rfl, ?_⟩
         | refine ⟨⟨⟨rfl, rfl, rfl⟩, ?_⟩, ?_⟩
         | refine ⟨_, _, rfl, row_get _ _ arith, rfl, ?_⟩
         | refine ⟨Or.inr (by repeat (first | exact trivial | refine ⟨rfl, ?_⟩)), ?_⟩
         | refine ⟨(?_ : _ = ([] : List (List T))), ?_⟩
         | fail))
  all_goals first
    | (conv => whnf
       refine ⟨Nat, fun i => i ≤ (auS m d l l.length).length, fun i => ⟨[(3, vi m), (4, .ptr 0 0), (5, .c (.ref 2)), (6, .c (.ref 3)), (9, vi i)], [(0, .box [.ref 1]), (1, .row true true 1 (d.Rows.map (eL eU))), (2, .row true true 5 (l.map DSignedAnswer.e)), (3, .row true true 1 ((auS m d l l.length).map eI))], 4⟩, fun i => (auS m d l l.length).length - i, 0, Nat.zero_le _, sub_at2 [(0, 4, 0), (1, 4, 1), (2, 5, 0), (3, 6, 0)] rfl rfl rfl ?_ ?_, fun i2 (hi2 : i2 ≤ (auS m d l l.length).length) => ?_⟩)
    | skip
  all_goals repeat' (first
    | (with_reducible rfl)
    | (conv => whnf
       first
         | refine ⟨i2 + 1, ⟨arith, arith⟩, sub_at2 [(0, 4, 0), (1, 4, 1), (2, 5, 0), (3, 6, 0)] rfl rfl rfl ?_ ?_⟩
         | exact trivial
         | (with_reducible rfl)
         | exact (rfl : (0 : Int) = ((0 : Nat) : Int))
         | exact w64_nat arith
         | refine bcase_T (by first | with_reducible rfl | decide) ?_
         | refine bcase_F (by first | with_reducible rfl | decide) ?_
         | refine bcase_dec (fun _ => ?_) (fun _ => ?_)
         | refine bcase_not ?_
         | refine bcase_intro (fun _ => ?_) (fun _ => ?_)
         | refine ⟨(by with_reducible rfl), ?_⟩
         | refine ⟨congrArg vi ?_, ?_⟩
         | refine ⟨congrArg vb ?_, ?_⟩
         | refine ⟨rfl, ?_⟩
         | refine ⟨(by kernel_rfl : drawOK _ = true), ?_⟩
         | refine Or.inl ?_
         | refine ⟨⟨congrArg (T.int _) ?_, rfl⟩, ?_⟩
         | refine ⟨⟨congrArg T.bool ?_, rfl⟩, ?_⟩
         | refine ⟨⟨rfl, Nat.le_of_ble_eq_true rfl⟩, ?_⟩
         | refine ⟨⟨rfl, rfl⟩, ?_⟩
         | refine ⟨⟨rfl, (by decide)⟩, ?_⟩
         | refine ⟨⟨rfl, ?_⟩, ?_⟩
         | refine ⟨Or.inr rfl, ?_⟩
         | refine ⟨Or.inl rfl, ?_⟩
         | refine ⟨⟨⟨rfl, rfl, rfl⟩, ?_⟩, ?_⟩
         | refine ⟨_, _, rfl, row_get _ _ arith, rfl, ?_⟩
         | refine ⟨Or.inr (by repeat (first | exact trivial | refine ⟨rfl, ?_⟩)), ?_⟩
         | refine ⟨(?_ : _ = ([] : List (List T))), ?_⟩
         | fail))
  all_goals first
    | (conv => whnf
       refine ⟨Nat, fun k => k ≤ l.length, fun k => ⟨[(3, vi m), (4, .ptr 0 0), (5, .c (.ref 2)), (6, .c (.ref 3)), (9, vi i2), (10, .c (.t (.bool (fnd m d l ((auS m d l l.length)[i2]'(by omega)) k)))), (11, vi k)], [(0, .box [.ref 1]), (1, .row true true 1 (d.Rows.map (eL eU))), (2, .row true true 5 (l.map DSignedAnswer.e)), (3, .row true true 1 ((auS m d l l.length).map eI))], 4⟩, fun k => l.length - k, 0, Nat.zero_le _, sub_at2 [(0, 4, 0), (1, 4, 1), (2, 5, 0), (3, 6, 0)] rfl rfl rfl ?_ ?_, fun k (hk : k ≤ l.length) => ?_⟩)
    | skip
  all_goals repeat' (first
    | (with_reducible rfl)
    | (conv => whnf
       first
         | (refine bcase_dec (fun _ => ?_) (fun _ => ?_); rotate_left; (have hkl : k = l.length := (by omega)); subst hkl; rotate_right)
         | refine bcase_F (by rw [hfn i2 (by omega)]; rfl) ?_
         | refine ⟨k, rfl, (by omega), ?_⟩
         | refine ⟨i2, rfl, (by omega), ?_⟩
         | refine ⟨i2 - 1, (by rw [w64_ok (by omega) (by omega)]; omega), (by omega), ?_⟩
         | refine ⟨_, row_get DSignedAnswer.e l (by omega), ?_⟩
         | refine ⟨_, row_get eI (auS m d l l.length) (by omega), ?_⟩
         | refine ⟨_, c_sServerKey _ _, ?_⟩
         | refine ⟨_, c_sIsFalseAnswer (servKey m ((auS m d l l.length)[i2]'(by omega))) d (l[k]'(by omega)) hd' (hl'.2 _ (List.getElem_mem _)).1 (hl'.2 _ (List.getElem_mem _)).2, ?_⟩
         | refine ⟨k + 1, ⟨arith, arith⟩, sub_at2 [(0, 4, 0), (1, 4, 1), (2, 5, 0), (3, 6, 0)] rfl rfl rfl ?_ ?_⟩
         | refine ⟨i2 + 1, ⟨arith, arith⟩, sub_at2 [(0, 4, 0), (1, 4, 1), (2, 5, 0), (3, 6, 0)] rfl rfl rfl ?_ ?_⟩
         | exact trivial
         | (with_reducible rfl)
         | exact (rfl : (0 : Int) = ((0 : Nat) : Int))
         | exact w64_nat arith
         | refine bcase_T (by first | with_reducible rfl | decide) ?_
         | refine bcase_F (by first | with_reducible rfl | decide) ?_
         | refine bcase_dec (fun _ => ?_) (fun _ => ?_)
         | refine bcase_not ?_
         | refine bcase_intro (fun _ => ?_) (fun _ => ?_)
         | refine ⟨(by with_reducible rfl), ?_⟩
         | refine ⟨congrArg vi ?_, ?_⟩
         | refine ⟨congrArg vb ?_, ?_⟩
         | refine ⟨rfl, ?_⟩
         | refine ⟨(by kernel_rfl : drawOK _ = true), ?_⟩
         | refine Or.inl ?_
         | refine ⟨⟨congrArg (T.int _) ?_, rfl⟩, ?_⟩
         | refine ⟨⟨congrArg T.bool ?_, rfl⟩, ?_⟩
         | refine ⟨⟨rfl, Nat.le_of_ble_eq_true rfl⟩, ?_⟩
         | refine ⟨⟨rfl, rfl⟩, ?_⟩
         | refine ⟨⟨rfl, (by decide)⟩, ?_⟩
         | refine ⟨⟨rfl, ?_⟩, ?_⟩
         | refine ⟨Or.inr rfl, ?_⟩
         | refine ⟨Or.inl rfl, ?_⟩
         | refine ⟨⟨⟨rfl, rfl, rfl⟩, ?_⟩, ?_⟩
         | refine ⟨_, _, rfl, row_get _ _ arith, rfl, ?_⟩
         | refine ⟨Or.inr (by repeat (first | exact trivial | refine ⟨rfl, ?_⟩)), ?_⟩
         | refine ⟨(?_ : _ = ([] : List (List T))), ?_⟩
         | fail))
  all_goals first
    | rfl
    | (exfalso; have := hhs i (by omega) (by assumption); simp_all; done)
    | (rw [fnd_succ (by omega)]; simp_all; done)
    | (exfalso; have := hlt (i2 - 1) (by omega); simp only [show i2 - 1 + 1 = i2 by omega] at this; omega)
    | trace_state
end Go.Proofs.Ytdbgmncapignoaa
