/-
  Contract: in a round that a code draws a spoiled round has a guilty server, and an honest server is never found guilty.
  Conditions: none.
-/
import Derived.Test.YtpipfobdfcnghaaFnRs
namespace Go.Proofs.Ytpipfobdfcnghaa
set_option maxHeartbeats 4000000
set_option maxRecDepth 20000
open Go.Vm Go.RowKit
attribute [local irreducible] FnAt MutAt InAt JAt CurAt FnE CurE RegAt

attribute [local irreducible] shareDig rcMac servKey newServer makeW rcv rcvOk mkRcpt pubS nwC audits isSpoiled joinHas joinDb rdM
theorem c_bigR (b : List UInt8) : FnAt Try.prog 5 [.one (L eU b)] [.one (.s (.bool (decide (1048576 < (b.length : Int)))))] := by
  have hm := lenm eU b
  refine fn_of Try.func5 rfl (by kernel_rfl) rfl ?_
  all_goals repeat' (first | (with_reducible rfl) | ((conv => whnf); first | exact trivial | (with_reducible rfl) | exact (rfl : (0 : Int) = ((0 : Nat) : Int)) | exact w64_nat arith | refine bcase_T (by first | with_reducible rfl | decide) ?_ | refine bcase_F (by first | with_reducible rfl | decide) ?_ | refine bcase_dec (fun _ => ?_) (fun _ => ?_) | refine bcase_not ?_ | refine bcase_intro (fun _ => ?_) (fun _ => ?_) | refine ⟨(by with_reducible rfl), ?_⟩ | refine ⟨congrArg vi ?_, ?_⟩ | refine ⟨congrArg vb ?_, ?_⟩ | refine ⟨rfl, ?_⟩ | refine ⟨(by kernel_rfl : drawOK _ = true), ?_⟩ | refine Or.inl ?_ | refine ⟨⟨congrArg (T.int _) ?_, rfl⟩, ?_⟩ | refine ⟨⟨congrArg T.bool ?_, rfl⟩, ?_⟩ | refine ⟨⟨rfl, Nat.le_of_ble_eq_true rfl⟩, ?_⟩ | refine ⟨⟨rfl, rfl⟩, ?_⟩ | refine ⟨⟨rfl, (by decide)⟩, ?_⟩ | refine ⟨⟨rfl, ?_⟩, ?_⟩ | refine ⟨Or.inr rfl, ?_⟩ | refine ⟨Or.inl rfl, ?_⟩ | refine ⟨⟨⟨rfl, rfl, rfl⟩, ?_⟩, ?_⟩ | refine ⟨_, _, rfl, row_get _ _ arith, rfl, ?_⟩ | refine ⟨Or.inr (by repeat (first | exact trivial | refine ⟨rfl, ?_⟩)), ?_⟩ | refine ⟨(?_ : _ = ([] : List (List T))), ?_⟩ | fail))
  all_goals (rw [hm])
theorem RD.ok.big {M : Int} {x : RD} (h : x.ok M) : bigTs x.sv ∧ bigSs x.sv ∧ bigL (x.sv.map pubS) := by
  have hl := h.r.len
  have hn := h.n
  have hR := h.R
  have h1 : ∀ s ∈ x.sv, bigT s := fun s hs => by
    obtain ⟨i, hi, rfl⟩ := List.mem_iff_getElem.1 hs
    exact ((h.r.srv i hi).big (by omega) (by decide)).1
  exact ⟨⟨by omega, h1⟩, ⟨by omega, fun s hs => (h1 s hs).1⟩, ⟨by rw [List.length_map]; omega, fun d hd => by
    obtain ⟨s, hs, rfl⟩ := List.mem_map.1 hd
    exact pubS_big s (h1 s hs).1⟩⟩
theorem c_FnGuiltyFound (a0 : List UInt8) (_ : a0.length ≤ maxLen) : FnAt Try.prog 4 [.one (L eU a0)] [.one (.s (.bool true))] := by
  by_cases hb : a0.length ≤ 1048576
  case neg =>
    refine fn_of Try.func4 rfl (by kernel_rfl) rfl ?_
    all_goals repeat' (first | (with_reducible rfl) | ((conv => whnf); first | refine ⟨_, c_bigR a0, ?_⟩ | refine bcase_T (by rw [decide_eq_true_eq]; omega) ?_ | exact trivial | (with_reducible rfl) | exact (rfl : (0 : Int) = ((0 : Nat) : Int)) | exact w64_nat arith | refine bcase_T (by first | with_reducible rfl | decide) ?_ | refine bcase_F (by first | with_reducible rfl | decide) ?_ | refine bcase_dec (fun _ => ?_) (fun _ => ?_) | refine bcase_not ?_ | refine bcase_intro (fun _ => ?_) (fun _ => ?_) | refine ⟨(by with_reducible rfl), ?_⟩ | refine ⟨congrArg vi ?_, ?_⟩ | refine ⟨congrArg vb ?_, ?_⟩ | refine ⟨rfl, ?_⟩ | refine ⟨(by kernel_rfl : drawOK _ = true), ?_⟩ | refine Or.inl ?_ | refine ⟨⟨congrArg (T.int _) ?_, rfl⟩, ?_⟩ | refine ⟨⟨congrArg T.bool ?_, rfl⟩, ?_⟩ | refine ⟨⟨rfl, Nat.le_of_ble_eq_true rfl⟩, ?_⟩ | refine ⟨⟨rfl, rfl⟩, ?_⟩ | refine ⟨⟨rfl, (by decide)⟩, ?_⟩ | refine ⟨⟨rfl, ?_⟩, ?_⟩ | refine ⟨Or.inr rfl, ?_⟩ | refine ⟨Or.inl rfl, ?_⟩ | refine ⟨⟨⟨rfl, rfl, rfl⟩, ?_⟩, ?_⟩ | refine ⟨_, _, rfl, row_get _ _ arith, rfl, ?_⟩ | refine ⟨Or.inr (by repeat (first | exact trivial | refine ⟨rfl, ?_⟩)), ?_⟩ | refine ⟨(?_ : _ = ([] : List (List T))), ?_⟩ | fail))
  refine fn_of Try.func4 rfl (by kernel_rfl) rfl ?_
  all_goals repeat' (first | (with_reducible rfl) | ((conv => whnf); first | refine ⟨_, c_bigR a0, ?_⟩ | refine bcase_F (by rw [decide_eq_false_iff_not]; omega) ?_ | (refine Or.inr ⟨rfl, Or.inl ?_⟩; (conv => whnf); refine inAt_fnK ?_ (e_DrawServed a0 hb) (by rfl); rintro ⟨M, R, n, sv, rc, c⟩ hx) | exact trivial | (with_reducible rfl) | exact (rfl : (0 : Int) = ((0 : Nat) : Int)) | exact w64_nat arith | refine bcase_T (by first | with_reducible rfl | decide) ?_ | refine bcase_F (by first | with_reducible rfl | decide) ?_ | refine bcase_dec (fun _ => ?_) (fun _ => ?_) | refine bcase_not ?_ | refine bcase_intro (fun _ => ?_) (fun _ => ?_) | refine ⟨(by with_reducible rfl), ?_⟩ | refine ⟨congrArg vi ?_, ?_⟩ | refine ⟨congrArg vb ?_, ?_⟩ | refine ⟨rfl, ?_⟩ | refine ⟨(by kernel_rfl : drawOK _ = true), ?_⟩ | refine Or.inl ?_ | refine ⟨⟨congrArg (T.int _) ?_, rfl⟩, ?_⟩ | refine ⟨⟨congrArg T.bool ?_, rfl⟩, ?_⟩ | refine ⟨⟨rfl, Nat.le_of_ble_eq_true rfl⟩, ?_⟩ | refine ⟨⟨rfl, rfl⟩, ?_⟩ | refine ⟨⟨rfl, (by decide)⟩, ?_⟩ | refine ⟨⟨rfl, ?_⟩, ?_⟩ | refine ⟨Or.inr rfl, ?_⟩ | refine ⟨Or.inl rfl, ?_⟩ | refine ⟨⟨⟨rfl, rfl, rfl⟩, ?_⟩, ?_⟩ | refine ⟨_, _, rfl, row_get _ _ arith, rfl, ?_⟩ | refine ⟨Or.inr (by repeat (first | exact trivial | refine ⟨rfl, ?_⟩)), ?_⟩ | refine ⟨(?_ : _ = ([] : List (List T))), ?_⟩ | fail))
  have hbg := hx.big
  have hR : 1 ≤ R ∧ R ≤ 3 := hx.R
  have hn : 2 ≤ n ∧ n ≤ 3 := hx.n
  have hr : RnI M R n (fun _ => 0) sv rc := hx.r
  have hj0 := hr.join hR hn
  have hl0 := bad_behavior hr hR hn sv.length
  have hz := not_spoiled hr hR hn
  dsimp only at hbg
  have hms := lenm DServer.e sv
  have hrl : rc.length ≤ 9 := hx.len
  all_goals repeat' (first | (with_reducible rfl) | ((conv => whnf); first | refine ⟨_, c_AuditRound M sv (sv.map pubS) rc hbg.1 hbg.2.2 (by omega), ?_⟩ | exact trivial | (with_reducible rfl) | exact (rfl : (0 : Int) = ((0 : Nat) : Int)) | exact w64_nat arith | refine bcase_T (by first | with_reducible rfl | decide) ?_ | refine bcase_F (by first | with_reducible rfl | decide) ?_ | refine bcase_dec (fun _ => ?_) (fun _ => ?_) | refine bcase_not ?_ | refine bcase_intro (fun _ => ?_) (fun _ => ?_) | refine ⟨(by with_reducible rfl), ?_⟩ | refine ⟨congrArg vi ?_, ?_⟩ | refine ⟨congrArg vb ?_, ?_⟩ | refine ⟨rfl, ?_⟩ | refine ⟨(by kernel_rfl : drawOK _ = true), ?_⟩ | refine Or.inl ?_ | refine ⟨⟨congrArg (T.int _) ?_, rfl⟩, ?_⟩ | refine ⟨⟨congrArg T.bool ?_, rfl⟩, ?_⟩ | refine ⟨⟨rfl, Nat.le_of_ble_eq_true rfl⟩, ?_⟩ | refine ⟨⟨rfl, rfl⟩, ?_⟩ | refine ⟨⟨rfl, (by decide)⟩, ?_⟩ | refine ⟨⟨rfl, ?_⟩, ?_⟩ | refine ⟨Or.inr rfl, ?_⟩ | refine ⟨Or.inl rfl, ?_⟩ | refine ⟨⟨⟨rfl, rfl, rfl⟩, ?_⟩, ?_⟩ | refine ⟨_, _, rfl, row_get _ _ arith, rfl, ?_⟩ | refine ⟨Or.inr (by repeat (first | exact trivial | refine ⟨rfl, ?_⟩)), ?_⟩ | refine ⟨(?_ : _ = ([] : List (List T))), ?_⟩ | fail))
  have hlm : ((audits M sv (sv.map pubS) rc sv.length).map eI).length = (audits M sv (sv.map pubS) rc sv.length).length := List.length_map _
  have hll := audits_len M sv (sv.map pubS) rc sv.length
  have hsl := hr.len
  generalize hgl : audits M sv (sv.map pubS) rc sv.length = l at *
  all_goals (conv => whnf)
  refine ⟨Nat, fun i => i ≤ l.length, fun i => ⟨[(4, .c (.ref 0)), (5, .c (.ref 1)), (7, .c (.ref 2)), (8, vi i)], [(0, .row true true 5 (sv.map DServer.e)), (1, .row true true 1 ((sv.map pubS).map DDatabase.e)), (2, .row true true 1 (l.map eI))], 3⟩, fun i => l.length - i, 0, Nat.zero_le _, sub_at [(0, 4), (1, 5), (2, 7)] rfl rfl rfl ?_ ?_, fun i (hi : i ≤ l.length) => ?_⟩
  case' refine_3 =>
    by_cases hin : i < l.length
    case pos =>
      obtain ⟨j, hjs, hje, hb0, hb3⟩ := hl0 l[i] (List.getElem_mem hin)
      all_goals repeat' (first | (with_reducible rfl) | ((conv => whnf); first | refine bcase_T (by rw [decide_eq_true_eq, hlm]; omega) ?_ | refine ⟨_, row_get eI l hin, ?_⟩ | refine ⟨_, row_get DServer.e sv hjs, ?_⟩ | refine ⟨i, rfl, (by rw [hlm]; exact hin), ?_⟩ | refine ⟨j, hje, (by rw [hms]; exact hjs), ?_⟩ | refine bcase_F (by rw [decide_eq_false_iff_not, hje]; omega) ?_ | refine bcase_F (by rw [decide_eq_false_iff_not, hje, hms]; omega) ?_ | refine bcase_F (by rw [decide_eq_false_iff_not]; assumption) ?_ | refine ⟨i + 1, ⟨arith, arith⟩, sub_at [(0, 4), (1, 5), (2, 7)] rfl rfl rfl ?_ ?_⟩ | exact trivial | (with_reducible rfl) | exact (rfl : (0 : Int) = ((0 : Nat) : Int)) | exact w64_nat arith | refine bcase_T (by first | with_reducible rfl | decide) ?_ | refine bcase_F (by first | with_reducible rfl | decide) ?_ | refine bcase_dec (fun _ => ?_) (fun _ => ?_) | refine bcase_not ?_ | refine bcase_intro (fun _ => ?_) (fun _ => ?_) | refine ⟨(by with_reducible rfl), ?_⟩ | refine ⟨congrArg vi ?_, ?_⟩ | refine ⟨congrArg vb ?_, ?_⟩ | refine ⟨rfl, ?_⟩ | refine ⟨(by kernel_rfl : drawOK _ = true), ?_⟩ | refine Or.inl ?_ | refine ⟨⟨congrArg (T.int _) ?_, rfl⟩, ?_⟩ | refine ⟨⟨congrArg T.bool ?_, rfl⟩, ?_⟩ | refine ⟨⟨rfl, Nat.le_of_ble_eq_true rfl⟩, ?_⟩ | refine ⟨⟨rfl, rfl⟩, ?_⟩ | refine ⟨⟨rfl, (by decide)⟩, ?_⟩ | refine ⟨⟨rfl, ?_⟩, ?_⟩ | refine ⟨Or.inr rfl, ?_⟩ | refine ⟨Or.inl rfl, ?_⟩ | refine ⟨⟨⟨rfl, rfl, rfl⟩, ?_⟩, ?_⟩ | refine ⟨_, _, rfl, row_get _ _ arith, rfl, ?_⟩ | refine ⟨Or.inr (by repeat (first | exact trivial | refine ⟨rfl, ?_⟩)), ?_⟩ | refine ⟨(?_ : _ = ([] : List (List T))), ?_⟩ | fail))
      all_goals (exfalso; first | exact hb0 (by assumption) | exact hb3 (by assumption))
    case neg =>
      have hi2 : i = l.length := by omega
      cases hsp : isSpoiled sv (sv.map pubS) with
      | false =>
        all_goals repeat' (first | (with_reducible rfl) | ((conv => whnf); first | refine bcase_F (by rw [decide_eq_false_iff_not, hlm]; omega) ?_ | refine ⟨_, c_IsSpoiled sv (sv.map pubS) hbg.2.1 hbg.2.2, ?_⟩ | refine ⟨_, c_sIsSpoiled sv (sv.map pubS) hbg.2.1 hbg.2.2, ?_⟩ | refine ⟨_, c_RoundDatabase (sv.map pubS) hbg.2.2, ?_⟩ | refine bcase_T hj0 ?_ | refine bcase_T (by rw [hsp]; rfl) ?_ | exact trivial | (with_reducible rfl) | exact (rfl : (0 : Int) = ((0 : Nat) : Int)) | exact w64_nat arith | refine bcase_T (by first | with_reducible rfl | decide) ?_ | refine bcase_F (by first | with_reducible rfl | decide) ?_ | refine bcase_dec (fun _ => ?_) (fun _ => ?_) | refine bcase_not ?_ | refine bcase_intro (fun _ => ?_) (fun _ => ?_) | refine ⟨(by with_reducible rfl), ?_⟩ | refine ⟨congrArg vi ?_, ?_⟩ | refine ⟨congrArg vb ?_, ?_⟩ | refine ⟨rfl, ?_⟩ | refine ⟨(by kernel_rfl : drawOK _ = true), ?_⟩ | refine Or.inl ?_ | refine ⟨⟨congrArg (T.int _) ?_, rfl⟩, ?_⟩ | refine ⟨⟨congrArg T.bool ?_, rfl⟩, ?_⟩ | refine ⟨⟨rfl, Nat.le_of_ble_eq_true rfl⟩, ?_⟩ | refine ⟨⟨rfl, rfl⟩, ?_⟩ | refine ⟨⟨rfl, (by decide)⟩, ?_⟩ | refine ⟨⟨rfl, ?_⟩, ?_⟩ | refine ⟨Or.inr rfl, ?_⟩ | refine ⟨Or.inl rfl, ?_⟩ | refine ⟨⟨⟨rfl, rfl, rfl⟩, ?_⟩, ?_⟩ | refine ⟨_, _, rfl, row_get _ _ arith, rfl, ?_⟩ | refine ⟨Or.inr (by repeat (first | exact trivial | refine ⟨rfl, ?_⟩)), ?_⟩ | refine ⟨(?_ : _ = ([] : List (List T))), ?_⟩ | fail))
        all_goals exact beq_self_eq_true _
      | true =>
        have hlp : 0 < l.length := by
          rcases Nat.eq_zero_or_pos l.length with h0 | h0
          · rw [hz (List.eq_nil_of_length_eq_zero h0)] at hsp; cases hsp
          · exact h0
        all_goals repeat' (first | (with_reducible rfl) | ((conv => whnf); first | refine bcase_F (by rw [decide_eq_false_iff_not, hlm]; omega) ?_ | refine ⟨_, c_IsSpoiled sv (sv.map pubS) hbg.2.1 hbg.2.2, ?_⟩ | refine ⟨_, c_sIsSpoiled sv (sv.map pubS) hbg.2.1 hbg.2.2, ?_⟩ | refine ⟨_, c_RoundDatabase (sv.map pubS) hbg.2.2, ?_⟩ | refine bcase_T hj0 ?_ | refine bcase_F (by rw [hsp]; rfl) ?_ | refine bcase_T (by rw [decide_eq_true_eq, hlm]; omega) ?_ | exact trivial | (with_reducible rfl) | exact (rfl : (0 : Int) = ((0 : Nat) : Int)) | exact w64_nat arith | refine bcase_T (by first | with_reducible rfl | decide) ?_ | refine bcase_F (by first | with_reducible rfl | decide) ?_ | refine bcase_dec (fun _ => ?_) (fun _ => ?_) | refine bcase_not ?_ | refine bcase_intro (fun _ => ?_) (fun _ => ?_) | refine ⟨(by with_reducible rfl), ?_⟩ | refine ⟨congrArg vi ?_, ?_⟩ | refine ⟨congrArg vb ?_, ?_⟩ | refine ⟨rfl, ?_⟩ | refine ⟨(by kernel_rfl : drawOK _ = true), ?_⟩ | refine Or.inl ?_ | refine ⟨⟨congrArg (T.int _) ?_, rfl⟩, ?_⟩ | refine ⟨⟨congrArg T.bool ?_, rfl⟩, ?_⟩ | refine ⟨⟨rfl, Nat.le_of_ble_eq_true rfl⟩, ?_⟩ | refine ⟨⟨rfl, rfl⟩, ?_⟩ | refine ⟨⟨rfl, (by decide)⟩, ?_⟩ | refine ⟨⟨rfl, ?_⟩, ?_⟩ | refine ⟨Or.inr rfl, ?_⟩ | refine ⟨Or.inl rfl, ?_⟩ | refine ⟨⟨⟨rfl, rfl, rfl⟩, ?_⟩, ?_⟩ | refine ⟨_, _, rfl, row_get _ _ arith, rfl, ?_⟩ | refine ⟨Or.inr (by repeat (first | exact trivial | refine ⟨rfl, ?_⟩)), ?_⟩ | refine ⟨(?_ : _ = ([] : List (List T))), ?_⟩ | fail))
        all_goals exact beq_self_eq_true _
  all_goals repeat' (first | (with_reducible rfl) | ((conv => whnf); first | exact trivial | (with_reducible rfl) | exact (rfl : (0 : Int) = ((0 : Nat) : Int)) | exact w64_nat arith | refine bcase_T (by first | with_reducible rfl | decide) ?_ | refine bcase_F (by first | with_reducible rfl | decide) ?_ | refine bcase_dec (fun _ => ?_) (fun _ => ?_) | refine bcase_not ?_ | refine bcase_intro (fun _ => ?_) (fun _ => ?_) | refine ⟨(by with_reducible rfl), ?_⟩ | refine ⟨congrArg vi ?_, ?_⟩ | refine ⟨congrArg vb ?_, ?_⟩ | refine ⟨rfl, ?_⟩ | refine ⟨(by kernel_rfl : drawOK _ = true), ?_⟩ | refine Or.inl ?_ | refine ⟨⟨congrArg (T.int _) ?_, rfl⟩, ?_⟩ | refine ⟨⟨congrArg T.bool ?_, rfl⟩, ?_⟩ | refine ⟨⟨rfl, Nat.le_of_ble_eq_true rfl⟩, ?_⟩ | refine ⟨⟨rfl, rfl⟩, ?_⟩ | refine ⟨⟨rfl, (by decide)⟩, ?_⟩ | refine ⟨⟨rfl, ?_⟩, ?_⟩ | refine ⟨Or.inr rfl, ?_⟩ | refine ⟨Or.inl rfl, ?_⟩ | refine ⟨⟨⟨rfl, rfl, rfl⟩, ?_⟩, ?_⟩ | refine ⟨_, _, rfl, row_get _ _ arith, rfl, ?_⟩ | refine ⟨Or.inr (by repeat (first | exact trivial | refine ⟨rfl, ?_⟩)), ?_⟩ | refine ⟨(?_ : _ = ([] : List (List T))), ?_⟩ | fail))
end Go.Proofs.Ytpipfobdfcnghaa
