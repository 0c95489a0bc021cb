/-
  Contracts: a private reading, of the reference.
  Conditions: none.
-/
import Derived.Test.YtmaamiapipngaaaGreatFnUd
namespace Go.Proofs.YtmaamiapipngaaaGreat
set_option maxHeartbeats 4000000
set_option maxRecDepth 20000
open Go.Vm Go.RowKit
attribute [local irreducible] FnAt MutAt InAt JAt CurAt FnE CurE RegAt

attribute [local irreducible] worldOk ansAs servKey archHas archDb mkQ rSeeds combL combOk preadL preadQ dataL
theorem c_l33Read (w : DWorld) (k row seed : Int) (h : bigW w) (h1 : worldOk w = true) (hd5 : ∀ r ∈ w.Archive.Rounds, ∀ x ∈ r.Database.Rows, x.length ≤ 1048576) : FnAt Tryz.prog 18 [.agg (DWorld.e w), .one (I k), .one (I row), .one (I seed)] [.one (.l 1 ((preadB w k row seed).map eU)), .one (.s (.bool (preadOk w k row seed)))] := by
  have hA := h.2.2.1
  cases h2 : archHas w.Archive k with
  | false =>
    have e1 : preadB w k row seed = [] := by unfold preadB; rw [h1, h2]; rfl
    have e2 : preadOk w k row seed = false := by unfold preadOk; rw [h1, h2]; rfl
    rw [e1, e2]
    refine fn_of Tryz.func18 rfl (by kernel_rfl) rfl ?_
    all_goals repeat' (first | (with_reducible rfl) | ((conv => whnf); first | refine ⟨_, c_sArchivedDatabase w.Archive k hA, ?_⟩ | refine bcase_T (by rw [h2]; rfl) ?_ | exact trivial | (with_reducible rfl) | exact (rfl : (0 : Int) = ((0 : Nat) : Int)) | exact w64_nat arith | refine bcase_T (by first | with_reducible rfl | decide) ?_ | refine bcase_F (by first | with_reducible rfl | decide) ?_ | refine bcase_dec (fun _ => ?_) (fun _ => ?_) | refine bcase_not ?_ | refine bcase_intro (fun _ => ?_) (fun _ => ?_) | refine ⟨(by with_reducible rfl), ?_⟩ | refine ⟨congrArg vi ?_, ?_⟩ | refine ⟨congrArg vb ?_, ?_⟩ | refine ⟨rfl, ?_⟩ | refine ⟨(by kernel_rfl : drawOK _ = true), ?_⟩ | refine Or.inl ?_ | refine ⟨⟨congrArg (T.int _) ?_, rfl⟩, ?_⟩ | refine ⟨⟨congrArg T.bool ?_, rfl⟩, ?_⟩ | refine ⟨⟨rfl, Nat.le_of_ble_eq_true rfl⟩, ?_⟩ | refine ⟨⟨rfl, rfl⟩, ?_⟩ | refine ⟨⟨rfl, (by decide)⟩, ?_⟩ | refine ⟨⟨rfl, ?_⟩, ?_⟩ | refine ⟨Or.inr rfl, ?_⟩ | refine ⟨Or.inl rfl, ?_⟩ | refine ⟨⟨⟨rfl, rfl, rfl⟩, ?_⟩, ?_⟩ | refine ⟨_, _, rfl, row_get _ _ arith, rfl, ?_⟩ | refine ⟨Or.inr (by repeat (first | exact trivial | refine ⟨rfl, ?_⟩)), ?_⟩ | refine ⟨(?_ : _ = ([] : List (List T))), ?_⟩ | fail))
    all_goals (try rfl)
  | true =>
  have e1 : preadB w k row seed = combL (preadAll w k row seed) := by unfold preadB; rw [h1, h2]; rfl
  have e2 : preadOk w k row seed = combOk (preadAll w k row seed) := by unfold preadOk; rw [h1, h2]; rfl
  rw [e1, e2]
  have hw4 := worldOk_srv h1
  have hw5 := inR_iff.1 hw4
  obtain ⟨hbig, hql⟩ := worldHas_db h2 hA hd5
  have hql1 := preadQ_len (w := w) (k := k) (row := row) (seed := seed) (by omega)
  have hqm : ∀ v ∈ preadQ w k row seed, v.length ≤ 64 := fun v hv => by unfold preadQ at hv; exact mkQ_mem hv
  have hc1 := c_sArchivedDatabase w.Archive k hA
  rw [h2] at hc1
  have hpl := preadL_len w k (archDb w.Archive k) (preadQ w k row seed)
  have hrl := fun i => rSeeds_len i k row seed
  have hms := lenm DServer.e w.Servers
  obtain ⟨m, hsm⟩ : ∃ m, w.Servers.length = m + 1 := ⟨w.Servers.length - 1, by omega⟩
  have hws : IntKind.i64.wrap (((w.Servers.map DServer.e).length : Int) - 1) = (m : Int) := by rw [hms, w64_ok (by omega) (by omega)]; omega
  have hc2 : ∀ j : Nat, ¬ ((j : Int) < (m : Int)) → j ≤ m → FnAt Tryz.prog 49 [.one (I w.Rows), .one (I row), .one (L eI (rSeeds j k row seed))] [.one (.l 1 ((preadQ w k row seed).map (eL eI)))] := fun j h3 h4 => by
    obtain rfl : j = w.Servers.length - 1 := by omega
    have hh := c_sMakeQuery w.Rows row (rSeeds (w.Servers.length - 1) k row seed) (by rw [rSeeds_len]; omega)
    rw [show mkQ w.Rows row (rSeeds (w.Servers.length - 1) k row seed) = preadQ w k row seed from by unfold preadQ; rfl] at hh
    exact hh
  unfold preadAll
  generalize hqs : preadQ w k row seed = qs at *
  generalize hdd : archDb w.Archive k = d at *
  have hlq := lenm (eL eI) qs
  have hbl := pread_big (w := w) (k := k) (qs := qs) (n := qs.length) (by omega) (by omega) hql
  have hc : ∀ j : Nat, ¬ ((j : Int) < (qs.length : Int)) → j ≤ qs.length → FnAt Tryz.prog 52 [.one (L DSignedAnswer.e (preadL w k d qs j))] [.one (.l 1 ((combL (dataL (preadL w k d qs qs.length))).map eU)), .one (.s (.bool (combOk (dataL (preadL w k d qs qs.length)))))] := fun j h3 h4 => by
    obtain rfl : j = qs.length := by omega
    exact c_sAnswersToCell _ hbl
  refine fn_of Tryz.func18 rfl (by kernel_rfl) rfl ?_
  all_goals repeat' (first | (with_reducible rfl) | ((conv => whnf); first | refine ⟨_, hc1, ?_⟩ | refine bcase_F (by rfl) ?_ | exact trivial | (with_reducible rfl) | exact (rfl : (0 : Int) = ((0 : Nat) : Int)) | exact w64_nat arith | refine bcase_T (by first | with_reducible rfl | decide) ?_ | refine bcase_F (by first | with_reducible rfl | decide) ?_ | refine bcase_dec (fun _ => ?_) (fun _ => ?_) | refine bcase_not ?_ | refine bcase_intro (fun _ => ?_) (fun _ => ?_) | refine ⟨(by with_reducible rfl), ?_⟩ | refine ⟨congrArg vi ?_, ?_⟩ | refine ⟨congrArg vb ?_, ?_⟩ | refine ⟨rfl, ?_⟩ | refine ⟨(by kernel_rfl : drawOK _ = true), ?_⟩ | refine Or.inl ?_ | refine ⟨⟨congrArg (T.int _) ?_, rfl⟩, ?_⟩ | refine ⟨⟨congrArg T.bool ?_, rfl⟩, ?_⟩ | refine ⟨⟨rfl, Nat.le_of_ble_eq_true rfl⟩, ?_⟩ | refine ⟨⟨rfl, rfl⟩, ?_⟩ | refine ⟨⟨rfl, (by decide)⟩, ?_⟩ | refine ⟨⟨rfl, ?_⟩, ?_⟩ | refine ⟨Or.inr rfl, ?_⟩ | refine ⟨Or.inl rfl, ?_⟩ | refine ⟨⟨⟨rfl, rfl, rfl⟩, ?_⟩, ?_⟩ | refine ⟨_, _, rfl, row_get _ _ arith, rfl, ?_⟩ | refine ⟨Or.inr (by repeat (first | exact trivial | refine ⟨rfl, ?_⟩)), ?_⟩ | refine ⟨(?_ : _ = ([] : List (List T))), ?_⟩ | fail))
  conv => whnf
  refine ⟨Nat, fun i => i ≤ m, fun i => ⟨[(1, vi k), (2, vi row), (3, vi seed), (4, .ptr 0 0), (10, .ptr 1 0), (12, .c (.ref 3)), (13, vi i)], [(0, .box ((DWorld.e w).map .t)), (1, .box [.ref 2]), (2, .row true true 1 (d.Rows.map (eL eU))), (3, .row true true 1 ((rSeeds i k row seed).map eI))], 4⟩, fun i => m - i, 0, Nat.zero_le _, sub_at2 [(0, 4, 0), (1, 10, 0), (2, 10, 1), (3, 12, 0)] rfl rfl rfl ?_ ?_, fun i (hi : i ≤ m) => ?_⟩
  case' refine_3 =>
    have hri := hrl i
    by_cases him : i < m
    case pos =>
      all_goals repeat' (first | (with_reducible rfl) | ((conv => whnf); first | refine bcase_T (by rw [decide_eq_true_eq, hws]; omega) ?_ | refine ⟨_, fn_args (c_sKeyedHash seed [229, k, row, (i : Int)] (by simp)) (by rfl), ?_⟩ | refine ⟨true, fun _ => (by simp [isScal]), ⟨rfl, rfl⟩, ⟨bnd, bnd⟩, ?_⟩ | refine ⟨i + 1, ⟨arith, arith⟩, sub_at2 [(0, 4, 0), (1, 10, 0), (2, 10, 1), (3, 12, 0)] rfl rfl rfl ?_ ?_⟩ | exact trivial | (with_reducible rfl) | exact (rfl : (0 : Int) = ((0 : Nat) : Int)) | exact w64_nat arith | refine bcase_T (by first | with_reducible rfl | decide) ?_ | refine bcase_F (by first | with_reducible rfl | decide) ?_ | refine bcase_dec (fun _ => ?_) (fun _ => ?_) | refine bcase_not ?_ | refine bcase_intro (fun _ => ?_) (fun _ => ?_) | refine ⟨(by with_reducible rfl), ?_⟩ | refine ⟨congrArg vi ?_, ?_⟩ | refine ⟨congrArg vb ?_, ?_⟩ | refine ⟨rfl, ?_⟩ | refine ⟨(by kernel_rfl : drawOK _ = true), ?_⟩ | refine Or.inl ?_ | refine ⟨⟨congrArg (T.int _) ?_, rfl⟩, ?_⟩ | refine ⟨⟨congrArg T.bool ?_, rfl⟩, ?_⟩ | refine ⟨⟨rfl, Nat.le_of_ble_eq_true rfl⟩, ?_⟩ | refine ⟨⟨rfl, rfl⟩, ?_⟩ | refine ⟨⟨rfl, (by decide)⟩, ?_⟩ | refine ⟨⟨rfl, ?_⟩, ?_⟩ | refine ⟨Or.inr rfl, ?_⟩ | refine ⟨Or.inl rfl, ?_⟩ | refine ⟨⟨⟨rfl, rfl, rfl⟩, ?_⟩, ?_⟩ | refine ⟨_, _, rfl, row_get _ _ arith, rfl, ?_⟩ | refine ⟨Or.inr (by repeat (first | exact trivial | refine ⟨rfl, ?_⟩)), ?_⟩ | refine ⟨(?_ : _ = ([] : List (List T))), ?_⟩ | fail))
      all_goals first
        | with_reducible rfl
        | (rw [rSeeds_succ]; done)
        | rfl
        | trace_state
    all_goals repeat' (first | (with_reducible rfl) | ((conv => whnf); first | refine bcase_F (by rw [decide_eq_false_iff_not, hws]; omega) ?_ | refine ⟨_, hc2 i (by omega) (by omega), ?_⟩ | exact trivial | (with_reducible rfl) | exact (rfl : (0 : Int) = ((0 : Nat) : Int)) | exact w64_nat arith | refine bcase_T (by first | with_reducible rfl | decide) ?_ | refine bcase_F (by first | with_reducible rfl | decide) ?_ | refine bcase_dec (fun _ => ?_) (fun _ => ?_) | refine bcase_not ?_ | refine bcase_intro (fun _ => ?_) (fun _ => ?_) | refine ⟨(by with_reducible rfl), ?_⟩ | refine ⟨congrArg vi ?_, ?_⟩ | refine ⟨congrArg vb ?_, ?_⟩ | refine ⟨rfl, ?_⟩ | refine ⟨(by kernel_rfl : drawOK _ = true), ?_⟩ | refine Or.inl ?_ | refine ⟨⟨congrArg (T.int _) ?_, rfl⟩, ?_⟩ | refine ⟨⟨congrArg T.bool ?_, rfl⟩, ?_⟩ | refine ⟨⟨rfl, Nat.le_of_ble_eq_true rfl⟩, ?_⟩ | refine ⟨⟨rfl, rfl⟩, ?_⟩ | refine ⟨⟨rfl, (by decide)⟩, ?_⟩ | refine ⟨⟨rfl, ?_⟩, ?_⟩ | refine ⟨Or.inr rfl, ?_⟩ | refine ⟨Or.inl rfl, ?_⟩ | refine ⟨⟨⟨rfl, rfl, rfl⟩, ?_⟩, ?_⟩ | refine ⟨_, _, rfl, row_get _ _ arith, rfl, ?_⟩ | refine ⟨Or.inr (by repeat (first | exact trivial | refine ⟨rfl, ?_⟩)), ?_⟩ | refine ⟨(?_ : _ = ([] : List (List T))), ?_⟩ | fail))
    conv => whnf
    refine ⟨Nat, fun i => i ≤ qs.length, fun i => ⟨[(1, vi k), (4, .ptr 0 0), (10, .ptr 1 0), (14, .c (.ref 4)), (15, .c (.ref 3)), (16, vi i)], [(0, .box ((DWorld.e w).map .t)), (1, .box [.ref 2]), (2, .row true true 1 (d.Rows.map (eL eU))), (3, .row true true 5 ((preadL w k d qs i).map DSignedAnswer.e)), (4, .row true true 1 (qs.map (eL eI)))], 5⟩, fun i => qs.length - i, 0, Nat.zero_le _, sub_at2 [(0, 4, 0), (1, 10, 0), (2, 10, 1), (3, 15, 0), (4, 14, 0)] rfl rfl rfl ?_ ?_, fun i (hi : i ≤ qs.length) => ?_⟩
    case' refine_3 =>
      by_cases hin : i < qs.length
      case neg =>
        all_goals repeat' (first | (with_reducible rfl) | ((conv => whnf); first | refine bcase_F (by rw [decide_eq_false_iff_not, hlq]; omega) ?_ | refine ⟨_, hc i (by omega) (by omega), ?_⟩ | exact trivial | (with_reducible rfl) | exact (rfl : (0 : Int) = ((0 : Nat) : Int)) | exact w64_nat arith | refine bcase_T (by first | with_reducible rfl | decide) ?_ | refine bcase_F (by first | with_reducible rfl | decide) ?_ | refine bcase_dec (fun _ => ?_) (fun _ => ?_) | refine bcase_not ?_ | refine bcase_intro (fun _ => ?_) (fun _ => ?_) | refine ⟨(by with_reducible rfl), ?_⟩ | refine ⟨congrArg vi ?_, ?_⟩ | refine ⟨congrArg vb ?_, ?_⟩ | refine ⟨rfl, ?_⟩ | refine ⟨(by kernel_rfl : drawOK _ = true), ?_⟩ | refine Or.inl ?_ | refine ⟨⟨congrArg (T.int _) ?_, rfl⟩, ?_⟩ | refine ⟨⟨congrArg T.bool ?_, rfl⟩, ?_⟩ | refine ⟨⟨rfl, Nat.le_of_ble_eq_true rfl⟩, ?_⟩ | refine ⟨⟨rfl, rfl⟩, ?_⟩ | refine ⟨⟨rfl, (by decide)⟩, ?_⟩ | refine ⟨⟨rfl, ?_⟩, ?_⟩ | refine ⟨Or.inr rfl, ?_⟩ | refine ⟨Or.inl rfl, ?_⟩ | refine ⟨⟨⟨rfl, rfl, rfl⟩, ?_⟩, ?_⟩ | refine ⟨_, _, rfl, row_get _ _ arith, rfl, ?_⟩ | refine ⟨Or.inr (by repeat (first | exact trivial | refine ⟨rfl, ?_⟩)), ?_⟩ | refine ⟨(?_ : _ = ([] : List (List T))), ?_⟩ | fail))
        all_goals (try rfl)
      have his : i < w.Servers.length := by omega
      have hvl := hqm qs[i] (List.getElem_mem _)
      have hqv := hql qs[i]
      have hpi := hpl i
      have hps := preadL_succ w k d qs his hin
      all_goals repeat' (first | (with_reducible rfl) | ((conv => whnf); first | refine bcase_T (by rw [decide_eq_true_eq, hlq]; omega) ?_ | refine ⟨i, rfl, (by rw [List.length_map]; omega), ?_⟩ | refine ⟨_, row_get _ _ (by omega), ?_⟩ | refine ⟨i, _, rfl, row_get _ _ (by omega), rfl, ?_⟩ | refine ⟨_, c_sServerKey w.Master i, ?_⟩ | refine ⟨_, c_sAnswerAs w.Servers[i] (servKey w.Master i) k d qs[i] hbig (by omega) (by omega), ?_⟩ | refine ⟨⟨(by show _ * 72 ≤ _; simp only [List.length_map, List.length_cons, List.length_nil]; omega), bnd⟩, ?_⟩ | refine ⟨i + 1, ⟨arith, arith⟩, sub_at2 [(0, 4, 0), (1, 10, 0), (2, 10, 1), (3, 15, 0), (4, 14, 0)] rfl rfl rfl ?_ ?_⟩ | exact trivial | (with_reducible rfl) | exact (rfl : (0 : Int) = ((0 : Nat) : Int)) | exact w64_nat arith | refine bcase_T (by first | with_reducible rfl | decide) ?_ | refine bcase_F (by first | with_reducible rfl | decide) ?_ | refine bcase_dec (fun _ => ?_) (fun _ => ?_) | refine bcase_not ?_ | refine bcase_intro (fun _ => ?_) (fun _ => ?_) | refine ⟨(by with_reducible rfl), ?_⟩ | refine ⟨congrArg vi ?_, ?_⟩ | refine ⟨congrArg vb ?_, ?_⟩ | refine ⟨rfl, ?_⟩ | refine ⟨(by kernel_rfl : drawOK _ = true), ?_⟩ | refine Or.inl ?_ | refine ⟨⟨congrArg (T.int _) ?_, rfl⟩, ?_⟩ | refine ⟨⟨congrArg T.bool ?_, rfl⟩, ?_⟩ | refine ⟨⟨rfl, Nat.le_of_ble_eq_true rfl⟩, ?_⟩ | refine ⟨⟨rfl, rfl⟩, ?_⟩ | refine ⟨⟨rfl, (by decide)⟩, ?_⟩ | refine ⟨⟨rfl, ?_⟩, ?_⟩ | refine ⟨Or.inr rfl, ?_⟩ | refine ⟨Or.inl rfl, ?_⟩ | refine ⟨⟨⟨rfl, rfl, rfl⟩, ?_⟩, ?_⟩ | refine ⟨_, _, rfl, row_get _ _ arith, rfl, ?_⟩ | refine ⟨Or.inr (by repeat (first | exact trivial | refine ⟨rfl, ?_⟩)), ?_⟩ | refine ⟨(?_ : _ = ([] : List (List T))), ?_⟩ | fail))
      all_goals first
        | with_reducible rfl
        | exact hps.symm
        | rfl
        | trace_state
    all_goals repeat' (first | (with_reducible rfl) | ((conv => whnf); first | exact trivial | (with_reducible rfl) | exact (rfl : (0 : Int) = ((0 : Nat) : Int)) | exact w64_nat arith | refine bcase_T (by first | with_reducible rfl | decide) ?_ | refine bcase_F (by first | with_reducible rfl | decide) ?_ | refine bcase_dec (fun _ => ?_) (fun _ => ?_) | refine bcase_not ?_ | refine bcase_intro (fun _ => ?_) (fun _ => ?_) | refine ⟨(by with_reducible rfl), ?_⟩ | refine ⟨congrArg vi ?_, ?_⟩ | refine ⟨congrArg vb ?_, ?_⟩ | refine ⟨rfl, ?_⟩ | refine ⟨(by kernel_rfl : drawOK _ = true), ?_⟩ | refine Or.inl ?_ | refine ⟨⟨congrArg (T.int _) ?_, rfl⟩, ?_⟩ | refine ⟨⟨congrArg T.bool ?_, rfl⟩, ?_⟩ | refine ⟨⟨rfl, Nat.le_of_ble_eq_true rfl⟩, ?_⟩ | refine ⟨⟨rfl, rfl⟩, ?_⟩ | refine ⟨⟨rfl, (by decide)⟩, ?_⟩ | refine ⟨⟨rfl, ?_⟩, ?_⟩ | refine ⟨Or.inr rfl, ?_⟩ | refine ⟨Or.inl rfl, ?_⟩ | refine ⟨⟨⟨rfl, rfl, rfl⟩, ?_⟩, ?_⟩ | refine ⟨_, _, rfl, row_get _ _ arith, rfl, ?_⟩ | refine ⟨Or.inr (by repeat (first | exact trivial | refine ⟨rfl, ?_⟩)), ?_⟩ | refine ⟨(?_ : _ = ([] : List (List T))), ?_⟩ | fail))
    all_goals first
      | with_reducible rfl
      | (unfold preadL; rfl)
      | rfl
      | trace_state
  all_goals repeat' (first | (with_reducible rfl) | ((conv => whnf); first | exact trivial | (with_reducible rfl) | exact (rfl : (0 : Int) = ((0 : Nat) : Int)) | exact w64_nat arith | refine bcase_T (by first | with_reducible rfl | decide) ?_ | refine bcase_F (by first | with_reducible rfl | decide) ?_ | refine bcase_dec (fun _ => ?_) (fun _ => ?_) | refine bcase_not ?_ | refine bcase_intro (fun _ => ?_) (fun _ => ?_) | refine ⟨(by with_reducible rfl), ?_⟩ | refine ⟨congrArg vi ?_, ?_⟩ | refine ⟨congrArg vb ?_, ?_⟩ | refine ⟨rfl, ?_⟩ | refine ⟨(by kernel_rfl : drawOK _ = true), ?_⟩ | refine Or.inl ?_ | refine ⟨⟨congrArg (T.int _) ?_, rfl⟩, ?_⟩ | refine ⟨⟨congrArg T.bool ?_, rfl⟩, ?_⟩ | refine ⟨⟨rfl, Nat.le_of_ble_eq_true rfl⟩, ?_⟩ | refine ⟨⟨rfl, rfl⟩, ?_⟩ | refine ⟨⟨rfl, (by decide)⟩, ?_⟩ | refine ⟨⟨rfl, ?_⟩, ?_⟩ | refine ⟨Or.inr rfl, ?_⟩ | refine ⟨Or.inl rfl, ?_⟩ | refine ⟨⟨⟨rfl, rfl, rfl⟩, ?_⟩, ?_⟩ | refine ⟨_, _, rfl, row_get _ _ arith, rfl, ?_⟩ | refine ⟨Or.inr (by repeat (first | exact trivial | refine ⟨rfl, ?_⟩)), ?_⟩ | refine ⟨(?_ : _ = ([] : List (List T))), ?_⟩ | fail))
  all_goals first
    | with_reducible rfl
    | (unfold rSeeds; rfl)
    | rfl
    | trace_state
theorem c_sPrivateRead (w : DWorld) (k row seed : Int) (h : bigW w) (hd5 : ∀ r ∈ w.Archive.Rounds, ∀ x ∈ r.Database.Rows, x.length ≤ 1048576) : FnAt Tryz.prog 5 [.agg (DWorld.e w), .one (I k), .one (I row), .one (I seed)] [.one (.l 1 ((preadB w k row seed).map eU)), .one (.s (.bool (preadOk w k row seed)))] := by
  cases h1 : worldOk w with
  | false =>
    have e1 : preadB w k row seed = [] := by unfold preadB; rw [h1]; rfl
    have e2 : preadOk w k row seed = false := by unfold preadOk; rw [h1]; rfl
    rw [e1, e2]
    refine fn_of Tryz.func5 rfl (by kernel_rfl) rfl ?_
    all_goals repeat' (first | (with_reducible rfl) | ((conv => whnf); first | refine ⟨_, c_sIsValidWorld w h, ?_⟩ | refine bcase_T (by rw [h1]; rfl) ?_ | exact trivial | (with_reducible rfl) | exact (rfl : (0 : Int) = ((0 : Nat) : Int)) | exact w64_nat arith | refine bcase_T (by first | with_reducible rfl | decide) ?_ | refine bcase_F (by first | with_reducible rfl | decide) ?_ | refine bcase_dec (fun _ => ?_) (fun _ => ?_) | refine bcase_not ?_ | refine bcase_intro (fun _ => ?_) (fun _ => ?_) | refine ⟨(by with_reducible rfl), ?_⟩ | refine ⟨congrArg vi ?_, ?_⟩ | refine ⟨congrArg vb ?_, ?_⟩ | refine ⟨rfl, ?_⟩ | refine ⟨(by kernel_rfl : drawOK _ = true), ?_⟩ | refine Or.inl ?_ | refine ⟨⟨congrArg (T.int _) ?_, rfl⟩, ?_⟩ | refine ⟨⟨congrArg T.bool ?_, rfl⟩, ?_⟩ | refine ⟨⟨rfl, Nat.le_of_ble_eq_true rfl⟩, ?_⟩ | refine ⟨⟨rfl, rfl⟩, ?_⟩ | refine ⟨⟨rfl, (by decide)⟩, ?_⟩ | refine ⟨⟨rfl, ?_⟩, ?_⟩ | refine ⟨Or.inr rfl, ?_⟩ | refine ⟨Or.inl rfl, ?_⟩ | refine ⟨⟨⟨rfl, rfl, rfl⟩, ?_⟩, ?_⟩ | refine ⟨_, _, rfl, row_get _ _ arith, rfl, ?_⟩ | refine ⟨Or.inr (by repeat (first | exact trivial | refine ⟨rfl, ?_⟩)), ?_⟩ | refine ⟨(?_ : _ = ([] : List (List T))), ?_⟩ | fail))
    all_goals (try rfl)
  | true =>
    refine fn_of Tryz.func5 rfl (by kernel_rfl) rfl ?_
    all_goals repeat' (first | (with_reducible rfl) | ((conv => whnf); first | refine ⟨_, c_sIsValidWorld w h, ?_⟩ | refine bcase_F (by rw [h1]; rfl) ?_ | refine ⟨_, c_l33Read w k row seed h h1 hd5, ?_⟩ | exact trivial | (with_reducible rfl) | exact (rfl : (0 : Int) = ((0 : Nat) : Int)) | exact w64_nat arith | refine bcase_T (by first | with_reducible rfl | decide) ?_ | refine bcase_F (by first | with_reducible rfl | decide) ?_ | refine bcase_dec (fun _ => ?_) (fun _ => ?_) | refine bcase_not ?_ | refine bcase_intro (fun _ => ?_) (fun _ => ?_) | refine ⟨(by with_reducible rfl), ?_⟩ | refine ⟨congrArg vi ?_, ?_⟩ | refine ⟨congrArg vb ?_, ?_⟩ | refine ⟨rfl, ?_⟩ | refine ⟨(by kernel_rfl : drawOK _ = true), ?_⟩ | refine Or.inl ?_ | refine ⟨⟨congrArg (T.int _) ?_, rfl⟩, ?_⟩ | refine ⟨⟨congrArg T.bool ?_, rfl⟩, ?_⟩ | refine ⟨⟨rfl, Nat.le_of_ble_eq_true rfl⟩, ?_⟩ | refine ⟨⟨rfl, rfl⟩, ?_⟩ | refine ⟨⟨rfl, (by decide)⟩, ?_⟩ | refine ⟨⟨rfl, ?_⟩, ?_⟩ | refine ⟨Or.inr rfl, ?_⟩ | refine ⟨Or.inl rfl, ?_⟩ | refine ⟨⟨⟨rfl, rfl, rfl⟩, ?_⟩, ?_⟩ | refine ⟨_, _, rfl, row_get _ _ arith, rfl, ?_⟩ | refine ⟨Or.inr (by repeat (first | exact trivial | refine ⟨rfl, ?_⟩)), ?_⟩ | refine ⟨(?_ : _ = ([] : List (List T))), ?_⟩ | fail))
    all_goals (try rfl)
theorem combL_len (l : List (List UInt8)) : (combL l).length ≤ 24 := by
  unfold combL
  split
  · next h =>
    refine xAllAt_len (fun x hx => ?_) _
    unfold combOk at h
    simp only [Bool.and_eq_true, Bool.not_eq_true'] at h
    have h2 := List.any_eq_false.1 h.2 x hx
    unfold rowBad at h2
    simp only [Bool.not_eq_true', Bool.not_eq_false, decide_eq_true_eq, decide_eq_false_iff_not, Decidable.not_not] at h2
    omega
  · simp
theorem preadB_len (w : DWorld) (k row seed : Int) : (preadB w k row seed).length ≤ 24 := by
  unfold preadB
  split
  · exact combL_len _
  · simp
end Go.Proofs.YtmaamiapipngaaaGreat
