/-
  Contracts: a server receives a share, of the reference.
  Conditions: none.
-/
import Derived.Test.YteecgbgdmfjogaaGreatFnGw
import Derived.Test.YteecgbgdmfjogaaGreatVmAm
namespace Go.Proofs.YteecgbgdmfjogaaGreat
set_option maxHeartbeats 4000000
set_option maxRecDepth 20000
open Go.Vm Go.RowKit
attribute [local irreducible] FnAt MutAt InAt JAt CurAt FnE CurE RegAt

def insL (l : List DReceivedShare) (k : Nat) (x : DReceivedShare) : List DReceivedShare := l.take k ++ [x] ++ l.drop k
def insK (l : List DReceivedShare) (a : Int) : Nat := (l.takeWhile fun r => decide (r.Client < a)).length
def rcvI (s : DServer) (a : Int) (d : DDatabase) (i : Nat) : DServer := ⟨s.Id, s.Rows, s.Round, insL s.Received i ⟨a, d⟩, s.Behavior⟩
def rcvOkI (s : DServer) (a : Int) (d : DDatabase) (i : Nat) : Bool := servOk s && servOk (rcvI s a d i)
def rcvOk (s : DServer) (a : Int) (d : DDatabase) : Bool := rcvOkI s a d (insK s.Received a)
def rcvF (s : DServer) (a : Int) (d : DDatabase) (i : Nat) : DServer := if rcvOkI s a d i then rcvI s a d i else s
def rcv (s : DServer) (a : Int) (d : DDatabase) : DServer := rcvF s a d (insK s.Received a)
theorem insK_eq {a : Int} : ∀ {l : List DReceivedShare} {i : Nat}, i ≤ l.length → (∀ (j : Nat) (hj : j < l.length), j < i → l[j].Client < a) → (∀ h : i < l.length, ¬ l[i].Client < a) → insK l a = i
  | [], i, h1, _, _ => by simp at h1; subst h1; rfl
  | x :: l, 0, _, _, h3 => by
    have := h3 (by simp)
    simp only [List.getElem_cons_zero] at this
    simp [insK, List.takeWhile, this]
  | x :: l, i + 1, h1, h2, h3 => by
    have h0 := h2 0 (by simp) (by omega)
    simp only [List.getElem_cons_zero] at h0
    have := insK_eq (l := l) (i := i) (by simpa using h1) (fun j hj hji => h2 (j + 1) (by simp; omega) (by omega)) (fun h => h3 (by simp; omega))
    simp [insK, List.takeWhile, h0] at this ⊢
    exact this
theorem rcvI_big {s : DServer} {a : Int} {d : DDatabase} {i : Nat} (h8 : s.Received.length ≤ 1048576) (h : bigS s) (hd : bigB d.Rows) : bigS (rcvI s a d i) := by
  refine ⟨?_, fun r hr => ?_⟩
  · simp only [rcvI, insL, List.length_append, List.length_take, List.length_drop, List.length_cons, List.length_nil]
    omega
  · simp only [rcvI, insL, List.mem_append, List.mem_cons, List.not_mem_nil, or_false] at hr
    rcases hr with (hr | rfl) | hr
    · exact h.2 r (List.mem_of_mem_take hr)
    · exact hd
    · exact h.2 r (List.mem_of_mem_drop hr)
theorem raws_len {css : List (List Value)} {n : Nat} (h1 : css.length = n) : (raws css).length = n := by rw [raws_length, h1]
theorem raws_mem {css : List (List Value)} {sz h l : Nat} (h2 : ∀ cs ∈ css, cs.length = sz) : ∀ r ∈ ((raws css).take h).drop l, r.length = sz := by
  intro r hr
  obtain ⟨cs, hcs, rfl⟩ := List.mem_map.1 (List.mem_of_mem_take (List.mem_of_mem_drop hr))
  rw [List.length_map]; exact h2 cs hcs
theorem raws_sc {css : List (List Value)} {h l : Nat} : ∀ r ∈ ((raws css).take h).drop l, ∀ x ∈ r, isScal x = true := fun r hr => raws_scal css r (List.mem_of_mem_take (List.mem_of_mem_drop hr))
theorem ins_map (l : List DReceivedShare) (i : Nat) (a : Int) (d : DDatabase) : (l.map DReceivedShare.e).take i ++ [[T.int .i64 a, T.lst (d.Rows.map (eL eU))]] ++ (l.map DReceivedShare.e).drop i = (insL l i ⟨a, d⟩).map DReceivedShare.e := by
  simp only [insL, List.map_append, List.map_take, List.map_drop, List.map_cons, List.map_nil]
  rfl
theorem raw_ins (css : List (List Value)) (i m : Nat) (hm : css.length ≤ m) (M : List (List T)) : (((raws css).take i).drop 0 ++ M) ++ ((raws css).take m).drop i = raws (css.take i) ++ M ++ raws (css.drop i) := by
  rw [List.take_of_length_le (i := m) (l := raws css) (by rw [raws_length]; exact hm), List.drop_zero, raws_take, raws_drop]
theorem rb1 {css : List (List Value)} {n i : Nat} (h : css.length = n) (h8 : n ≤ 1048576) : (((raws css).take i).drop 0).length * 32 ≤ 140737488355328 ∧ (((raws css).take i).drop 0).length ≤ 140737488355328 := by
  rw [List.length_drop, List.length_take, raws_length]; omega
theorem rb2 {css : List (List Value)} {n i : Nat} (h : css.length = n) (h8 : n ≤ 1048576) : ((((raws css).take i).drop 0).length + 1) * 32 ≤ 140737488355328 ∧ (((raws css).take i).drop 0).length + 1 ≤ 140737488355328 := by
  rw [List.length_drop, List.length_take, raws_length]; omega
theorem rb3 {css : List (List Value)} {n i : Nat} (M : List (List T)) (hM : M.length = 1) (h : css.length = n) (h8 : n ≤ 1048576) : ((((raws css).take i).drop 0 ++ M).length + (((raws css).take (raws css).length).drop i).length) * 32 ≤ 140737488355328 ∧ (((raws css).take i).drop 0 ++ M).length + (((raws css).take (raws css).length).drop i).length ≤ 140737488355328 := by
  rw [List.length_append, List.length_drop, List.length_take, List.length_drop, List.length_take, raws_length, hM]; omega
theorem rcv_T {s : DServer} {a : Int} {d : DDatabase} {i : Nat} (h1 : servOk s = true) (h2 : servOk (rcvI s a d i) = true) : rcvF s a d i = rcvI s a d i ∧ rcvOkI s a d i = true := by
  have : rcvOkI s a d i = true := by unfold rcvOkI; rw [h1, h2]; rfl
  exact ⟨by unfold rcvF; rw [this]; rfl, this⟩
theorem rcv_F {s : DServer} {a : Int} {d : DDatabase} {i : Nat} (h : servOk s = false ∨ servOk (rcvI s a d i) = false) : rcvF s a d i = s ∧ rcvOkI s a d i = false := by
  have : rcvOkI s a d i = false := by unfold rcvOkI; rcases h with h | h <;> simp [h]
  exact ⟨by unfold rcvF; rw [this]; rfl, this⟩
theorem c_sReceiveShare (s : DServer) (a : Int) (d : DDatabase) (h8 : s.Received.length ≤ 1048576) (h : bigS s) (hd : bigB d.Rows) : FnAt Tryz.prog 123 [.agg (DServer.e s), .one (I a), .agg (DDatabase.e d)] [.agg (DServer.r (rcv s a d)), .one (.s (.bool (rcvOk s a d)))] := by
  have hm := lenm DReceivedShare.e s.Received
  refine fn_of Tryz.func123 rfl (by kernel_rfl) rfl ?_
  all_goals repeat' (first | (with_reducible rfl) | ((conv => whnf); first | exact trivial | (with_reducible rfl) | exact (rfl : (0 : Int) = ((0 : Nat) : Int)) | exact w64_nat arith | refine bcase_T (by first | with_reducible rfl | decide) ?_ | refine bcase_F (by first | with_reducible rfl | decide) ?_ | refine bcase_dec (fun _ => ?_) (fun _ => ?_) | refine bcase_not ?_ | refine bcase_intro (fun _ => ?_) (fun _ => ?_) | refine ⟨(by with_reducible rfl), ?_⟩ | refine ⟨congrArg vi ?_, ?_⟩ | refine ⟨congrArg vb ?_, ?_⟩ | refine ⟨rfl, ?_⟩ | refine ⟨(by kernel_rfl : drawOK _ = true), ?_⟩ | refine Or.inl ?_ | refine ⟨⟨congrArg (T.int _) ?_, rfl⟩, ?_⟩ | refine ⟨⟨congrArg T.bool ?_, rfl⟩, ?_⟩ | refine ⟨⟨rfl, Nat.le_of_ble_eq_true rfl⟩, ?_⟩ | refine ⟨⟨rfl, rfl⟩, ?_⟩ | refine ⟨⟨rfl, (by decide)⟩, ?_⟩ | refine ⟨⟨rfl, ?_⟩, ?_⟩ | refine ⟨Or.inr rfl, ?_⟩ | refine ⟨Or.inl rfl, ?_⟩ | refine ⟨⟨⟨rfl, rfl, rfl⟩, ?_⟩, ?_⟩ | refine ⟨_, _, rfl, row_get _ _ arith, rfl, ?_⟩ | refine ⟨Or.inr (by repeat (first | exact trivial | refine ⟨rfl, ?_⟩)), ?_⟩ | refine ⟨(?_ : _ = ([] : List (List T))), ?_⟩ | refine ⟨_, c_l25Copy s h, ?_⟩ | fail))
  conv => whnf
  refine ⟨Nat, fun i => i ≤ s.Received.length ∧ ∀ (j : Nat) (hj : j < s.Received.length), j < i → s.Received[j].Client < a, fun i => ⟨[(1, vi a), (3, .ptr 0 0), (5, .ptr 1 0), (6, .ptr 2 0), (8, .ptr 3 0), (9, vi i)], [(0, .box ((DServer.e s).map .t)), (1, .box ((DDatabase.e d).map .t)), (2, .box [.t (I 0), .t (I 0), .t (I 0), .nil, .t (I 0)]), (3, .box [.t (I s.Id), .t (I s.Rows), .t (I s.Round), .ref 4, .t (I s.Behavior)]), (4, .row true true 2 (s.Received.map DReceivedShare.e))], 5⟩, fun i => s.Received.length - i, 0, ⟨Nat.zero_le _, fun j _ h => absurd h (Nat.not_lt_zero _)⟩, sub_at2 [(0, 3, 0), (1, 5, 0), (2, 6, 0), (3, 8, 0), (4, 8, 4)] rfl rfl rfl ?_ ?_, fun i hi => ?_⟩
  case' refine_3 =>
    have hi1 := hi.1
    by_cases h1 : i < s.Received.length
    case pos =>
      by_cases h2 : s.Received[i].Client < a
      case pos =>
        all_goals repeat' (first | (with_reducible rfl) | ((conv => whnf); first | refine bcase_T (by rw [decide_eq_true_eq]; first | (rw [hm]; omega) | assumption) ?_ | refine ⟨i, rfl, (by rw [hm]; exact h1), ?_⟩ | refine ⟨_, row_get _ _ h1, ?_⟩ | refine ⟨i, _, rfl, row_get _ _ h1, rfl, ?_⟩ | refine ⟨i + 1, ⟨⟨arith, ?_⟩, arith⟩, sub_at2 [(0, 3, 0), (1, 5, 0), (2, 6, 0), (3, 8, 0), (4, 8, 4)] rfl rfl rfl ?_ ?_⟩ | exact trivial | (with_reducible rfl) | exact (rfl : (0 : Int) = ((0 : Nat) : Int)) | exact w64_nat arith | refine bcase_T (by first | with_reducible rfl | decide) ?_ | refine bcase_F (by first | with_reducible rfl | decide) ?_ | refine bcase_dec (fun _ => ?_) (fun _ => ?_) | refine bcase_not ?_ | refine bcase_intro (fun _ => ?_) (fun _ => ?_) | refine ⟨(by with_reducible rfl), ?_⟩ | refine ⟨congrArg vi ?_, ?_⟩ | refine ⟨congrArg vb ?_, ?_⟩ | refine ⟨rfl, ?_⟩ | refine ⟨(by kernel_rfl : drawOK _ = true), ?_⟩ | refine Or.inl ?_ | refine ⟨⟨congrArg (T.int _) ?_, rfl⟩, ?_⟩ | refine ⟨⟨congrArg T.bool ?_, rfl⟩, ?_⟩ | refine ⟨⟨rfl, Nat.le_of_ble_eq_true rfl⟩, ?_⟩ | refine ⟨⟨rfl, rfl⟩, ?_⟩ | refine ⟨⟨rfl, (by decide)⟩, ?_⟩ | refine ⟨⟨rfl, ?_⟩, ?_⟩ | refine ⟨Or.inr rfl, ?_⟩ | refine ⟨Or.inl rfl, ?_⟩ | refine ⟨⟨⟨rfl, rfl, rfl⟩, ?_⟩, ?_⟩ | refine ⟨_, _, rfl, row_get _ _ arith, rfl, ?_⟩ | refine ⟨Or.inr (by repeat (first | exact trivial | refine ⟨rfl, ?_⟩)), ?_⟩ | refine ⟨(?_ : _ = ([] : List (List T))), ?_⟩ | fail))
        all_goals first
          | exact fun j hj hji => if e : j = i then (by subst e; exact h2) else hi.2 j hj (by omega)
          | rfl
      case neg =>
        have hk := insK_eq (l := s.Received) (a := a) hi.1 hi.2 (fun _ => h2)
        unfold rcv rcvOk
        rw [hk]
        all_goals repeat' (first | (with_reducible rfl) | ((conv => whnf); first | refine bcase_T (by rw [decide_eq_true_eq]; (rw [hm]; omega)) ?_ | refine bcase_F (by rw [decide_eq_false_iff_not]; assumption) ?_ | refine ⟨i, rfl, (by rw [hm]; exact h1), ?_⟩ | refine ⟨_, row_get _ _ h1, ?_⟩ | refine ⟨i, _, rfl, row_get _ _ h1, rfl, ?_⟩ | exact trivial | (with_reducible rfl) | exact (rfl : (0 : Int) = ((0 : Nat) : Int)) | exact w64_nat arith | refine bcase_T (by first | with_reducible rfl | decide) ?_ | refine bcase_F (by first | with_reducible rfl | decide) ?_ | refine bcase_dec (fun _ => ?_) (fun _ => ?_) | refine bcase_not ?_ | refine bcase_intro (fun _ => ?_) (fun _ => ?_) | refine ⟨(by with_reducible rfl), ?_⟩ | refine ⟨congrArg vi ?_, ?_⟩ | refine ⟨congrArg vb ?_, ?_⟩ | refine ⟨rfl, ?_⟩ | refine ⟨(by kernel_rfl : drawOK _ = true), ?_⟩ | refine Or.inl ?_ | refine ⟨⟨congrArg (T.int _) ?_, rfl⟩, ?_⟩ | refine ⟨⟨congrArg T.bool ?_, rfl⟩, ?_⟩ | refine ⟨⟨rfl, Nat.le_of_ble_eq_true rfl⟩, ?_⟩ | refine ⟨⟨rfl, rfl⟩, ?_⟩ | refine ⟨⟨rfl, (by decide)⟩, ?_⟩ | refine ⟨⟨rfl, ?_⟩, ?_⟩ | refine ⟨Or.inr rfl, ?_⟩ | refine ⟨Or.inl rfl, ?_⟩ | refine ⟨⟨⟨rfl, rfl, rfl⟩, ?_⟩, ?_⟩ | refine ⟨_, _, rfl, row_get _ _ arith, rfl, ?_⟩ | refine ⟨Or.inr (by repeat (first | exact trivial | refine ⟨rfl, ?_⟩)), ?_⟩ | refine ⟨(?_ : _ = ([] : List (List T))), ?_⟩ | fail))
        all_goals (conv => whnf)
        all_goals refine regAt_raw 8 3 3 4 2 true _ _ i (by rfl) (by rfl) (by rfl) (by rfl) (fun css hc1 hc2 => ?_)
        have hc3 : css.length = s.Received.length := hc1.trans hm
        all_goals repeat' (first | (with_reducible rfl) | ((conv => whnf); first | refine regAt_last tys_ok (by kernel_rfl) (by kernel_rfl) (by kernel_rfl) ?_ | refine ⟨(by first | exact True.intro | (show frmO _ _ _; repeat (first | exact trivial | refine ⟨rfl, ?_⟩))), ?_⟩ | refine ⟨_, c_l8Copy d hd, ?_⟩ | refine ⟨0, i, rfl, rfl, ⟨Nat.zero_le _, by rw [raws_len hc3]; exact hi.1⟩, ?_⟩ | refine ⟨i, _, rfl, rfl, ⟨by rw [raws_len hc3]; exact hi.1, Nat.le_refl _⟩, ?_⟩ | refine ⟨true, ⟨rfl, rfl⟩, fun _ => raws_sc, raws_mem hc2, rb1 hc3 h8, ?_⟩ | refine ⟨rb2 hc3 h8, ?_⟩ | refine ⟨true, fun _ => raws_sc, raws_mem hc2, rb3 _ rfl hc3 h8, ?_⟩ | refine ⟨_, c_l25Copy s h, ?_⟩ | refine ⟨_, c_sIsValidServer s h, ?_⟩ | refine ⟨_, c_sIsValidServer (rcvI s a d i) (rcvI_big h8 h hd), ?_⟩ | refine ⟨9, true, [DReceivedShare.e ⟨a, d⟩], (insL s.Received i ⟨a, d⟩).map DReceivedShare.e, (by show some (Ob.row true true 2 _) = some (Ob.row true true 2 _); exact congrArg (fun r => some (Ob.row true true 2 r)) (raw_ins css i _ (by rw [raws_length]; exact Nat.le_refl _) _)), ins_map _ _ _ _, ?_⟩ | exact trivial | (with_reducible rfl) | exact (rfl : (0 : Int) = ((0 : Nat) : Int)) | exact w64_nat arith | refine bcase_T (by first | with_reducible rfl | decide) ?_ | refine bcase_F (by first | with_reducible rfl | decide) ?_ | refine bcase_dec (fun _ => ?_) (fun _ => ?_) | refine bcase_not ?_ | refine bcase_intro (fun _ => ?_) (fun _ => ?_) | refine ⟨(by with_reducible rfl), ?_⟩ | refine ⟨congrArg vi ?_, ?_⟩ | refine ⟨congrArg vb ?_, ?_⟩ | refine ⟨rfl, ?_⟩ | refine ⟨(by kernel_rfl : drawOK _ = true), ?_⟩ | refine Or.inl ?_ | refine ⟨⟨congrArg (T.int _) ?_, rfl⟩, ?_⟩ | refine ⟨⟨congrArg T.bool ?_, rfl⟩, ?_⟩ | refine ⟨⟨rfl, Nat.le_of_ble_eq_true rfl⟩, ?_⟩ | refine ⟨⟨rfl, rfl⟩, ?_⟩ | refine ⟨⟨rfl, (by decide)⟩, ?_⟩ | refine ⟨⟨rfl, ?_⟩, ?_⟩ | refine ⟨Or.inr rfl, ?_⟩ | refine ⟨Or.inl rfl, ?_⟩ | refine ⟨⟨⟨rfl, rfl, rfl⟩, ?_⟩, ?_⟩ | refine ⟨_, _, rfl, row_get _ _ arith, rfl, ?_⟩ | refine ⟨Or.inr (by repeat (first | exact trivial | refine ⟨rfl, ?_⟩)), ?_⟩ | refine ⟨(?_ : _ = ([] : List (List T))), ?_⟩ | fail))
        all_goals first
          | with_reducible rfl
          | (rw [(rcv_T (by assumption) (by assumption)).1]; rfl)
          | (rw [(rcv_T (by assumption) (by assumption)).2]; done)
          | (rw [(rcv_F (.inl (by assumption))).1]; done)
          | (rw [(rcv_F (.inl (by assumption))).2]; done)
          | (rw [(rcv_F (.inr (by assumption))).1]; done)
          | (rw [(rcv_F (.inr (by assumption))).2]; done)
          | trace_state
    case neg =>
      have hk := insK_eq (l := s.Received) (a := a) hi.1 hi.2 (fun h => absurd h h1)
      unfold rcv rcvOk
      rw [hk]
      all_goals repeat' (first | (with_reducible rfl) | ((conv => whnf); first | refine bcase_F (by rw [decide_eq_false_iff_not, hm]; omega) ?_ | exact trivial | (with_reducible rfl) | exact (rfl : (0 : Int) = ((0 : Nat) : Int)) | exact w64_nat arith | refine bcase_T (by first | with_reducible rfl | decide) ?_ | refine bcase_F (by first | with_reducible rfl | decide) ?_ | refine bcase_dec (fun _ => ?_) (fun _ => ?_) | refine bcase_not ?_ | refine bcase_intro (fun _ => ?_) (fun _ => ?_) | refine ⟨(by with_reducible rfl), ?_⟩ | refine ⟨congrArg vi ?_, ?_⟩ | refine ⟨congrArg vb ?_, ?_⟩ | refine ⟨rfl, ?_⟩ | refine ⟨(by kernel_rfl : drawOK _ = true), ?_⟩ | refine Or.inl ?_ | refine ⟨⟨congrArg (T.int _) ?_, rfl⟩, ?_⟩ | refine ⟨⟨congrArg T.bool ?_, rfl⟩, ?_⟩ | refine ⟨⟨rfl, Nat.le_of_ble_eq_true rfl⟩, ?_⟩ | refine ⟨⟨rfl, rfl⟩, ?_⟩ | refine ⟨⟨rfl, (by decide)⟩, ?_⟩ | refine ⟨⟨rfl, ?_⟩, ?_⟩ | refine ⟨Or.inr rfl, ?_⟩ | refine ⟨Or.inl rfl, ?_⟩ | refine ⟨⟨⟨rfl, rfl, rfl⟩, ?_⟩, ?_⟩ | refine ⟨_, _, rfl, row_get _ _ arith, rfl, ?_⟩ | refine ⟨Or.inr (by repeat (first | exact trivial | refine ⟨rfl, ?_⟩)), ?_⟩ | refine ⟨(?_ : _ = ([] : List (List T))), ?_⟩ | fail))
      all_goals (conv => whnf)
      all_goals refine regAt_raw 8 3 3 4 2 true _ _ i (by rfl) (by rfl) (by rfl) (by rfl) (fun css hc1 hc2 => ?_)
      have hc3 : css.length = s.Received.length := hc1.trans hm
      all_goals repeat' (first | (with_reducible rfl) | ((conv => whnf); first | refine regAt_last tys_ok (by kernel_rfl) (by kernel_rfl) (by kernel_rfl) ?_ | refine ⟨(by first | exact True.intro | (show frmO _ _ _; repeat (first | exact trivial | refine ⟨rfl, ?_⟩))), ?_⟩ | refine ⟨_, c_l8Copy d hd, ?_⟩ | refine ⟨0, i, rfl, rfl, ⟨Nat.zero_le _, by rw [raws_len hc3]; exact hi.1⟩, ?_⟩ | refine ⟨i, _, rfl, rfl, ⟨by rw [raws_len hc3]; exact hi.1, Nat.le_refl _⟩, ?_⟩ | refine ⟨true, ⟨rfl, rfl⟩, fun _ => raws_sc, raws_mem hc2, rb1 hc3 h8, ?_⟩ | refine ⟨rb2 hc3 h8, ?_⟩ | refine ⟨true, fun _ => raws_sc, raws_mem hc2, rb3 _ rfl hc3 h8, ?_⟩ | refine ⟨_, c_l25Copy s h, ?_⟩ | refine ⟨_, c_sIsValidServer s h, ?_⟩ | refine ⟨_, c_sIsValidServer (rcvI s a d i) (rcvI_big h8 h hd), ?_⟩ | refine ⟨9, true, [DReceivedShare.e ⟨a, d⟩], (insL s.Received i ⟨a, d⟩).map DReceivedShare.e, (by show some (Ob.row true true 2 _) = some (Ob.row true true 2 _); exact congrArg (fun r => some (Ob.row true true 2 r)) (raw_ins css i _ (by rw [raws_length]; exact Nat.le_refl _) _)), ins_map _ _ _ _, ?_⟩ | exact trivial | (with_reducible rfl) | exact (rfl : (0 : Int) = ((0 : Nat) : Int)) | exact w64_nat arith | refine bcase_T (by first | with_reducible rfl | decide) ?_ | refine bcase_F (by first | with_reducible rfl | decide) ?_ | refine bcase_dec (fun _ => ?_) (fun _ => ?_) | refine bcase_not ?_ | refine bcase_intro (fun _ => ?_) (fun _ => ?_) | refine ⟨(by with_reducible rfl), ?_⟩ | refine ⟨congrArg vi ?_, ?_⟩ | refine ⟨congrArg vb ?_, ?_⟩ | refine ⟨rfl, ?_⟩ | refine ⟨(by kernel_rfl : drawOK _ = true), ?_⟩ | refine Or.inl ?_ | refine ⟨⟨congrArg (T.int _) ?_, rfl⟩, ?_⟩ | refine ⟨⟨congrArg T.bool ?_, rfl⟩, ?_⟩ | refine ⟨⟨rfl, Nat.le_of_ble_eq_true rfl⟩, ?_⟩ | refine ⟨⟨rfl, rfl⟩, ?_⟩ | refine ⟨⟨rfl, (by decide)⟩, ?_⟩ | refine ⟨⟨rfl, ?_⟩, ?_⟩ | refine ⟨Or.inr rfl, ?_⟩ | refine ⟨Or.inl rfl, ?_⟩ | refine ⟨⟨⟨rfl, rfl, rfl⟩, ?_⟩, ?_⟩ | refine ⟨_, _, rfl, row_get _ _ arith, rfl, ?_⟩ | refine ⟨Or.inr (by repeat (first | exact trivial | refine ⟨rfl, ?_⟩)), ?_⟩ | refine ⟨(?_ : _ = ([] : List (List T))), ?_⟩ | fail))
      all_goals first
        | with_reducible rfl
        | (rw [(rcv_T (by assumption) (by assumption)).1]; rfl)
        | (rw [(rcv_T (by assumption) (by assumption)).2]; done)
        | (rw [(rcv_F (.inl (by assumption))).1]; done)
        | (rw [(rcv_F (.inl (by assumption))).2]; done)
        | (rw [(rcv_F (.inr (by assumption))).1]; done)
        | (rw [(rcv_F (.inr (by assumption))).2]; done)
        | trace_state
  all_goals repeat' (first | (with_reducible rfl) | ((conv => whnf); first | exact trivial | (with_reducible rfl) | exact (rfl : (0 : Int) = ((0 : Nat) : Int)) | exact w64_nat arith | refine bcase_T (by first | with_reducible rfl | decide) ?_ | refine bcase_F (by first | with_reducible rfl | decide) ?_ | refine bcase_dec (fun _ => ?_) (fun _ => ?_) | refine bcase_not ?_ | refine bcase_intro (fun _ => ?_) (fun _ => ?_) | refine ⟨(by with_reducible rfl), ?_⟩ | refine ⟨congrArg vi ?_, ?_⟩ | refine ⟨congrArg vb ?_, ?_⟩ | refine ⟨rfl, ?_⟩ | refine ⟨(by kernel_rfl : drawOK _ = true), ?_⟩ | refine Or.inl ?_ | refine ⟨⟨congrArg (T.int _) ?_, rfl⟩, ?_⟩ | refine ⟨⟨congrArg T.bool ?_, rfl⟩, ?_⟩ | refine ⟨⟨rfl, Nat.le_of_ble_eq_true rfl⟩, ?_⟩ | refine ⟨⟨rfl, rfl⟩, ?_⟩ | refine ⟨⟨rfl, (by decide)⟩, ?_⟩ | refine ⟨⟨rfl, ?_⟩, ?_⟩ | refine ⟨Or.inr rfl, ?_⟩ | refine ⟨Or.inl rfl, ?_⟩ | refine ⟨⟨⟨rfl, rfl, rfl⟩, ?_⟩, ?_⟩ | refine ⟨_, _, rfl, row_get _ _ arith, rfl, ?_⟩ | refine ⟨Or.inr (by repeat (first | exact trivial | refine ⟨rfl, ?_⟩)), ?_⟩ | refine ⟨(?_ : _ = ([] : List (List T))), ?_⟩ | fail))
  all_goals (try rfl)
end Go.Proofs.YteecgbgdmfjogaaGreat
