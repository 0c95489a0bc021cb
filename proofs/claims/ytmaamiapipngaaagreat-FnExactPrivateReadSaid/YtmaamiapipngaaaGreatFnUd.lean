/-
  Contracts: a private reading.
  Conditions: none.
-/
import Derived.Test.YtmaamiapipngaaaGreatFnUc
namespace Go.Proofs.YtmaamiapipngaaaGreat
set_option maxHeartbeats 4000000
set_option maxRecDepth 20000
open Go.Vm Go.RowKit
attribute [local irreducible] FnAt MutAt InAt JAt CurAt FnE CurE RegAt

theorem worldOk_srv {w : DWorld} (h : worldOk w = true) : inR (w.Servers.length : Int) 2 4 = true := by
  unfold worldOk worldHd at h
  simp only [Bool.and_eq_true, decide_eq_true_eq] at h
  exact h.2.1.1.1.1.1.1.1.2
attribute [local irreducible] worldOk ansAs servKey archHas archDb mkQ rSeeds combL combOk
def preadA (w : DWorld) (k : Int) (d : DDatabase) (qs : List (List Int)) (i : Nat) : DSignedAnswer := match w.Servers[i]?, qs[i]? with
  | some s, some v => ansAs s (servKey w.Master i) k d v
  | _, _ => ⟨0, 0, [], [], 0⟩
def preadL (w : DWorld) (k : Int) (d : DDatabase) (qs : List (List Int)) (n : Nat) : List DSignedAnswer := (List.range n).map (preadA w k d qs)
def preadQ (w : DWorld) (k row seed : Int) : List (List Int) := mkQ w.Rows row (rSeeds (w.Servers.length - 1) k row seed)
def preadAll (w : DWorld) (k row seed : Int) : List (List UInt8) := dataL (preadL w k (archDb w.Archive k) (preadQ w k row seed) (preadQ w k row seed).length)
def preadB (w : DWorld) (k row seed : Int) : List UInt8 := if worldOk w && archHas w.Archive k then combL (preadAll w k row seed) else []
def preadOk (w : DWorld) (k row seed : Int) : Bool := worldOk w && archHas w.Archive k && combOk (preadAll w k row seed)
theorem preadA_eq (w : DWorld) (k : Int) (d : DDatabase) (qs : List (List Int)) {i : Nat} (h1 : i < w.Servers.length) (h2 : i < qs.length) : preadA w k d qs i = ansAs w.Servers[i] (servKey w.Master i) k d qs[i] := by
  simp only [preadA, List.getElem?_eq_getElem h1, List.getElem?_eq_getElem h2]
theorem preadL_len (w : DWorld) (k : Int) (d : DDatabase) (qs : List (List Int)) (n : Nat) : (preadL w k d qs n).length = n := by unfold preadL; simp
theorem preadL_succ (w : DWorld) (k : Int) (d : DDatabase) (qs : List (List Int)) {i : Nat} (h1 : i < w.Servers.length) (h2 : i < qs.length) : (preadL w k d qs (i + 1)).map DSignedAnswer.e = (preadL w k d qs i).map DSignedAnswer.e ++ [DSignedAnswer.e (ansAs w.Servers[i] (servKey w.Master i) k d qs[i])] := by
  unfold preadL
  rw [List.range_succ, List.map_append, List.map_append, ← preadA_eq w k d qs h1 h2]; rfl
theorem mkQ_len {n i : Int} {ss : List Int} {m : Nat} (h : ss.length + 1 ≤ m) : (mkQ n i ss).length ≤ m := by
  unfold mkQ
  split
  · simp
  · unfold qRows; simp; omega
theorem mkQ_mem {n i : Int} {ss : List Int} {v : List Int} (h : v ∈ mkQ n i ss) : v.length ≤ 64 := by
  unfold mkQ at h
  split at h
  · cases h
  · rcases List.mem_append.1 h with h | h
    · unfold qRows at h
      obtain ⟨s, _, rfl⟩ := List.mem_map.1 h
      exact randSel_len s n
    · rw [List.mem_singleton.1 h]
      exact qStep_len (unitSel_len n i) _
theorem preadQ_len {w : DWorld} {k row seed : Int} (h : 1 ≤ w.Servers.length) : (preadQ w k row seed).length ≤ w.Servers.length :=
  mkQ_len (by rw [rSeeds_len]; omega)
theorem preadA_none {w : DWorld} {k : Int} {d : DDatabase} {qs : List (List Int)} {i : Nat} (h1 : i < w.Servers.length) (h2 : i < qs.length) (h : ansOk d qs[i] = false) : preadA w k d qs i = ⟨0, 0, [], [], 0⟩ := by
  rw [preadA_eq w k d qs h1 h2]
  unfold ansAs signAns; rw [h]; rfl
theorem comb_bad {l : List (List UInt8)} (h : [] ∈ l) : combOk l = false := by
  unfold combOk
  have : l.any rowBad = true := List.any_eq_true.2 ⟨[], h, by unfold rowBad; simp⟩
  rw [this]; simp
theorem comb_nil {l : List (List UInt8)} (h : combOk l = false) : combL l = [] := by unfold combL; rw [h]; rfl
theorem pread_bad {w : DWorld} {k : Int} {d : DDatabase} {qs : List (List Int)} {i : Nat} (h1 : i < w.Servers.length) (h2 : i < qs.length) (h : ansOk d qs[i] = false) : combOk (dataL (preadL w k d qs qs.length)) = false := by
  refine comb_bad ?_
  unfold dataL preadL
  rw [List.map_map, List.mem_map]
  exact ⟨i, by simpa using h2, by show (preadA w k d qs i).Data = []; rw [preadA_none h1 h2 h]⟩
theorem ansAs_data (s : DServer) (k r : Int) (d : DDatabase) (v : List Int) : (ansAs s k r d v).Data.length ≤ (ansQ d v).length := by
  have hf : ∀ l : List UInt8, (flip0 l).length = l.length := fun l => by cases l <;> rfl
  unfold ansAs signAns
  split <;> split <;> simp [lieAns, withMac, hf]
theorem pread_big {w : DWorld} {k : Int} {d : DDatabase} {qs : List (List Int)} {n B : Nat} (hn : n ≤ 1099511627776) (hB : B ≤ 1099511627776) (hq : ∀ v, (ansQ d v).length ≤ B) : bigB (dataL (preadL w k d qs n)) := by
  refine ⟨by unfold dataL; rw [List.length_map, preadL_len]; exact hn, fun x hx => ?_⟩
  unfold dataL preadL at hx
  rw [List.map_map] at hx
  obtain ⟨i, _, rfl⟩ := List.mem_map.1 hx
  show (preadA w k d qs i).Data.length ≤ _
  unfold preadA
  split
  · exact Nat.le_trans (ansAs_data _ _ _ _ _) (Nat.le_trans (hq _) hB)
  · simp
theorem worldHas_db {w : DWorld} {k : Int} (h2 : archHas w.Archive k = true) (hA : bigR w.Archive.Rounds) (hd5 : ∀ r ∈ w.Archive.Rounds, ∀ x ∈ r.Database.Rows, x.length ≤ 1048576) : bigB (archDb w.Archive k).Rows ∧ ∀ v, (ansQ (archDb w.Archive k) v).length ≤ 1048600 := by
  have hmem : ∃ r ∈ w.Archive.Rounds, archDb w.Archive k = r.Database := by
    unfold archHas at h2
    unfold archDb
    cases e : archFind w.Archive.Rounds k with
    | none => rw [e] at h2; cases h2
    | some r => exact ⟨r, firstP_mem e, rfl⟩
  obtain ⟨q, hq, hdq⟩ := hmem
  refine ⟨by rw [hdq]; exact hA.2 q hq, fun v => ?_⟩
  unfold ansQ
  split
  · rw [xorB_len, zero24_len]
    have := selX_len (v := v) (B := 1048576) (rows := (archDb w.Archive k).Rows) (by rw [hdq]; exact hd5 q hq) (archDb w.Archive k).Rows.length
    omega
  · simp
attribute [local irreducible] preadL preadQ dataL
theorem c_PrivateRead (w : DWorld) (k row seed : Int) (h : bigW w) (hd5 : ∀ r ∈ w.Archive.Rounds, ∀ x ∈ r.Database.Rows, x.length ≤ 1048576) : FnAt Tryz.prog 7 [.agg (DWorld.e w), .one (I k), .one (I row), .one (I seed)] [.one (.l 1 ((preadB w k row seed).map eU)), .one (.s (.bool (preadOk w k row seed)))] := by
  have hA := h.2.2.1
  cases h1 : worldOk w with
  | false =>
    have e1 : preadB w k row seed = [] := by unfold preadB; rw [h1]; rfl
    have e2 : preadOk w k row seed = false := by unfold preadOk; rw [h1]; rfl
    rw [e1, e2]
    refine fn_of Tryz.func7 rfl (by kernel_rfl) rfl ?_
    all_goals repeat' (first | (with_reducible rfl) | ((conv => whnf); first | refine ⟨_, c_ArchivedDatabase w.Archive k hA, ?_⟩ | refine ⟨_, c_IsValidWorld w h, ?_⟩ | refine bcase_T (by rw [h1]; rfl) ?_ | exact trivial | (with_reducible rfl) | exact (rfl : (0 : Int) = ((0 : Nat) : Int)) | exact w64_nat arith | refine bcase_T (by first | with_reducible rfl | decide) ?_ | refine bcase_F (by first | with_reducible rfl | decide) ?_ | refine bcase_dec (fun _ => ?_) (fun _ => ?_) | refine bcase_not ?_ | refine bcase_intro (fun _ => ?_) (fun _ => ?_) | refine ⟨(by with_reducible rfl), ?_⟩ | refine ⟨congrArg vi ?_, ?_⟩ | refine ⟨congrArg vb ?_, ?_⟩ | refine ⟨rfl, ?_⟩ | refine ⟨(by kernel_rfl : drawOK _ = true), ?_⟩ | refine Or.inl ?_ | refine ⟨⟨congrArg (T.int _) ?_, rfl⟩, ?_⟩ | refine ⟨⟨congrArg T.bool ?_, rfl⟩, ?_⟩ | refine ⟨⟨rfl, Nat.le_of_ble_eq_true rfl⟩, ?_⟩ | refine ⟨⟨rfl, rfl⟩, ?_⟩ | refine ⟨⟨rfl, (by decide)⟩, ?_⟩ | refine ⟨⟨rfl, ?_⟩, ?_⟩ | refine ⟨Or.inr rfl, ?_⟩ | refine ⟨Or.inl rfl, ?_⟩ | refine ⟨⟨⟨rfl, rfl, rfl⟩, ?_⟩, ?_⟩ | refine ⟨_, _, rfl, row_get _ _ arith, rfl, ?_⟩ | refine ⟨Or.inr (by repeat (first | exact trivial | refine ⟨rfl, ?_⟩)), ?_⟩ | refine ⟨(?_ : _ = ([] : List (List T))), ?_⟩ | fail))
    all_goals (try rfl)
  | true =>
  cases h2 : archHas w.Archive k with
  | false =>
    have e1 : preadB w k row seed = [] := by unfold preadB; rw [h1, h2]; rfl
    have e2 : preadOk w k row seed = false := by unfold preadOk; rw [h1, h2]; rfl
    rw [e1, e2]
    refine fn_of Tryz.func7 rfl (by kernel_rfl) rfl ?_
    all_goals repeat' (first | (with_reducible rfl) | ((conv => whnf); first | refine ⟨_, c_ArchivedDatabase w.Archive k hA, ?_⟩ | refine ⟨_, c_IsValidWorld w h, ?_⟩ | refine bcase_F (by rw [h1]; rfl) ?_ | refine bcase_T (by rw [h2]; rfl) ?_ | exact trivial | (with_reducible rfl) | exact (rfl : (0 : Int) = ((0 : Nat) : Int)) | exact w64_nat arith | refine bcase_T (by first | with_reducible rfl | decide) ?_ | refine bcase_F (by first | with_reducible rfl | decide) ?_ | refine bcase_dec (fun _ => ?_) (fun _ => ?_) | refine bcase_not ?_ | refine bcase_intro (fun _ => ?_) (fun _ => ?_) | refine ⟨(by with_reducible rfl), ?_⟩ | refine ⟨congrArg vi ?_, ?_⟩ | refine ⟨congrArg vb ?_, ?_⟩ | refine ⟨rfl, ?_⟩ | refine ⟨(by kernel_rfl : drawOK _ = true), ?_⟩ | refine Or.inl ?_ | refine ⟨⟨congrArg (T.int _) ?_, rfl⟩, ?_⟩ | refine ⟨⟨congrArg T.bool ?_, rfl⟩, ?_⟩ | refine ⟨⟨rfl, Nat.le_of_ble_eq_true rfl⟩, ?_⟩ | refine ⟨⟨rfl, rfl⟩, ?_⟩ | refine ⟨⟨rfl, (by decide)⟩, ?_⟩ | refine ⟨⟨rfl, ?_⟩, ?_⟩ | refine ⟨Or.inr rfl, ?_⟩ | refine ⟨Or.inl rfl, ?_⟩ | refine ⟨⟨⟨rfl, rfl, rfl⟩, ?_⟩, ?_⟩ | refine ⟨_, _, rfl, row_get _ _ arith, rfl, ?_⟩ | refine ⟨Or.inr (by repeat (first | exact trivial | refine ⟨rfl, ?_⟩)), ?_⟩ | refine ⟨(?_ : _ = ([] : List (List T))), ?_⟩ | fail))
    all_goals (try rfl)
  | true =>
  have e1 : preadB w k row seed = combL (preadAll w k row seed) := by unfold preadB; rw [h1, h2]; rfl
  have e2 : preadOk w k row seed = combOk (preadAll w k row seed) := by unfold preadOk; rw [h1, h2]; rfl
  rw [e1, e2]
  have hw4 := worldOk_srv h1
  have hw5 := inR_iff.1 hw4
  obtain ⟨hbig, hql⟩ := worldHas_db h2 hA hd5
  have hql1 := preadQ_len (w := w) (k := k) (row := row) (seed := seed) (by omega)
  have hqm : ∀ v ∈ preadQ w k row seed, v.length ≤ 64 := fun v hv => by unfold preadQ at hv; exact mkQ_mem hv
  have hc1 := c_ArchivedDatabase w.Archive k hA
  rw [h2] at hc1
  have hc2 := c_MakeQuery w.Rows row (rSeeds (w.Servers.length - 1) k row seed) (by rw [rSeeds_len]; omega)
  rw [show mkQ w.Rows row (rSeeds (w.Servers.length - 1) k row seed) = preadQ w k row seed from by unfold preadQ; rfl] at hc2
  have hpl := preadL_len w k (archDb w.Archive k) (preadQ w k row seed)
  unfold preadAll
  generalize hqs : preadQ w k row seed = qs at *
  generalize hdd : archDb w.Archive k = d at *
  have hlq := lenm (eL eI) qs
  have hbl := pread_big (w := w) (k := k) (qs := qs) (n := qs.length) (by omega) (by omega) hql
  have hc : ∀ j : Nat, ¬ ((j : Int) < (qs.length : Int)) → j ≤ qs.length → FnAt Tryz.prog 29 [.one (L DSignedAnswer.e (preadL w k d qs j))] [.one (.l 1 ((combL (dataL (preadL w k d qs qs.length))).map eU)), .one (.s (.bool (combOk (dataL (preadL w k d qs qs.length)))))] := fun j h3 h4 => by
    obtain rfl : j = qs.length := by omega
    exact c_AnswersToCell _ hbl
  refine fn_of Tryz.func7 rfl (by kernel_rfl) rfl ?_
  all_goals repeat' (first | (with_reducible rfl) | ((conv => whnf); first | refine ⟨_, hc1, ?_⟩ | refine ⟨_, c_IsValidWorld w h, ?_⟩ | refine bcase_F (by rw [h1]; rfl) ?_ | refine bcase_F (by rfl) ?_ | refine ⟨_, c_readSeeds w k row seed (by omega) (by omega), ?_⟩ | refine ⟨_, hc2, ?_⟩ | exact trivial | (with_reducible rfl) | exact (rfl : (0 : Int) = ((0 : Nat) : Int)) | exact w64_nat arith | refine bcase_T (by first | with_reducible rfl | decide) ?_ | refine bcase_F (by first | with_reducible rfl | decide) ?_ | refine bcase_dec (fun _ => ?_) (fun _ => ?_) | refine bcase_not ?_ | refine bcase_intro (fun _ => ?_) (fun _ => ?_) | refine ⟨(by with_reducible rfl), ?_⟩ | refine ⟨congrArg vi ?_, ?_⟩ | refine ⟨congrArg vb ?_, ?_⟩ | refine ⟨rfl, ?_⟩ | refine ⟨(by kernel_rfl : drawOK _ = true), ?_⟩ | refine Or.inl ?_ | refine ⟨⟨congrArg (T.int _) ?_, rfl⟩, ?_⟩ | refine ⟨⟨congrArg T.bool ?_, rfl⟩, ?_⟩ | refine ⟨⟨rfl, Nat.le_of_ble_eq_true rfl⟩, ?_⟩ | refine ⟨⟨rfl, rfl⟩, ?_⟩ | refine ⟨⟨rfl, (by decide)⟩, ?_⟩ | refine ⟨⟨rfl, ?_⟩, ?_⟩ | refine ⟨Or.inr rfl, ?_⟩ | refine ⟨Or.inl rfl, ?_⟩ | refine ⟨⟨⟨rfl, rfl, rfl⟩, ?_⟩, ?_⟩ | refine ⟨_, _, rfl, row_get _ _ arith, rfl, ?_⟩ | refine ⟨Or.inr (by repeat (first | exact trivial | refine ⟨rfl, ?_⟩)), ?_⟩ | refine ⟨(?_ : _ = ([] : List (List T))), ?_⟩ | fail))
  conv => whnf
  refine ⟨Nat, fun i => i ≤ qs.length, fun i => ⟨[(1, vi k), (4, .ptr 0 0), (10, .ptr 1 0), (12, .c (.ref 3)), (40, .c (.ref 4)), (41, vi qs.length), (42, vi i)], [(0, .box ((DWorld.e w).map .t)), (1, .box [.ref 2]), (2, .row true true 1 (d.Rows.map (eL eU))), (3, .row true true 5 ((preadL w k d qs i).map DSignedAnswer.e)), (4, .row true true 1 (qs.map (eL eI)))], 5⟩, fun i => qs.length - i, 0, Nat.zero_le _, sub_at2 [(0, 4, 0), (1, 10, 0), (2, 10, 1), (3, 12, 0), (4, 40, 0)] rfl rfl rfl ?_ ?_, fun i (hi : i ≤ qs.length) => ?_⟩
  case' refine_3 =>
    by_cases hin : i < qs.length
    case neg =>
      all_goals repeat' (first | (with_reducible rfl) | ((conv => whnf); first | refine bcase_F (by rw [decide_eq_false_iff_not]; omega) ?_ | refine ⟨_, hc i (by omega) (by omega), ?_⟩ | exact trivial | (with_reducible rfl) | exact (rfl : (0 : Int) = ((0 : Nat) : Int)) | exact w64_nat arith | refine bcase_T (by first | with_reducible rfl | decide) ?_ | refine bcase_F (by first | with_reducible rfl | decide) ?_ | refine bcase_dec (fun _ => ?_) (fun _ => ?_) | refine bcase_not ?_ | refine bcase_intro (fun _ => ?_) (fun _ => ?_) | refine ⟨(by with_reducible rfl), ?_⟩ | refine ⟨congrArg vi ?_, ?_⟩ | refine ⟨congrArg vb ?_, ?_⟩ | refine ⟨rfl, ?_⟩ | refine ⟨(by kernel_rfl : drawOK _ = true), ?_⟩ | refine Or.inl ?_ | refine ⟨⟨congrArg (T.int _) ?_, rfl⟩, ?_⟩ | refine ⟨⟨congrArg T.bool ?_, rfl⟩, ?_⟩ | refine ⟨⟨rfl, Nat.le_of_ble_eq_true rfl⟩, ?_⟩ | refine ⟨⟨rfl, rfl⟩, ?_⟩ | refine ⟨⟨rfl, (by decide)⟩, ?_⟩ | refine ⟨⟨rfl, ?_⟩, ?_⟩ | refine ⟨Or.inr rfl, ?_⟩ | refine ⟨Or.inl rfl, ?_⟩ | refine ⟨⟨⟨rfl, rfl, rfl⟩, ?_⟩, ?_⟩ | refine ⟨_, _, rfl, row_get _ _ arith, rfl, ?_⟩ | refine ⟨Or.inr (by repeat (first | exact trivial | refine ⟨rfl, ?_⟩)), ?_⟩ | refine ⟨(?_ : _ = ([] : List (List T))), ?_⟩ | fail))
      all_goals (try rfl)
    have his : i < w.Servers.length := by omega
    have hvl := hqm qs[i] (List.getElem_mem _)
    have hqv := hql qs[i]
    have hpi := hpl i
    have hps := preadL_succ w k d qs his hin
    cases hok : ansOk d qs[i] with
    | false =>
      have hb := pread_bad (k := k) his hin hok
      rw [hb, comb_nil hb]
      all_goals repeat' (first | (with_reducible rfl) | ((conv => whnf); first | refine bcase_T (by rw [decide_eq_true_eq]; omega) ?_ | refine ⟨i, rfl, (by rw [List.length_map]; omega), ?_⟩ | refine ⟨_, row_get _ _ (by omega), ?_⟩ | refine ⟨i, _, rfl, row_get _ _ (by omega), rfl, ?_⟩ | refine ⟨_, c_ServerKey w.Master i, ?_⟩ | refine ⟨_, c_AnswerAs w.Servers[i] (servKey w.Master i) k d qs[i] hbig (by omega) (by omega), ?_⟩ | refine bcase_T (by rw [hok]; rfl) ?_ | exact trivial | (with_reducible rfl) | exact (rfl : (0 : Int) = ((0 : Nat) : Int)) | exact w64_nat arith | refine bcase_T (by first | with_reducible rfl | decide) ?_ | refine bcase_F (by first | with_reducible rfl | decide) ?_ | refine bcase_dec (fun _ => ?_) (fun _ => ?_) | refine bcase_not ?_ | refine bcase_intro (fun _ => ?_) (fun _ => ?_) | refine ⟨(by with_reducible rfl), ?_⟩ | refine ⟨congrArg vi ?_, ?_⟩ | refine ⟨congrArg vb ?_, ?_⟩ | refine ⟨rfl, ?_⟩ | refine ⟨(by kernel_rfl : drawOK _ = true), ?_⟩ | refine Or.inl ?_ | refine ⟨⟨congrArg (T.int _) ?_, rfl⟩, ?_⟩ | refine ⟨⟨congrArg T.bool ?_, rfl⟩, ?_⟩ | refine ⟨⟨rfl, Nat.le_of_ble_eq_true rfl⟩, ?_⟩ | refine ⟨⟨rfl, rfl⟩, ?_⟩ | refine ⟨⟨rfl, (by decide)⟩, ?_⟩ | refine ⟨⟨rfl, ?_⟩, ?_⟩ | refine ⟨Or.inr rfl, ?_⟩ | refine ⟨Or.inl rfl, ?_⟩ | refine ⟨⟨⟨rfl, rfl, rfl⟩, ?_⟩, ?_⟩ | refine ⟨_, _, rfl, row_get _ _ arith, rfl, ?_⟩ | refine ⟨Or.inr (by repeat (first | exact trivial | refine ⟨rfl, ?_⟩)), ?_⟩ | refine ⟨(?_ : _ = ([] : List (List T))), ?_⟩ | fail))
      all_goals (try rfl)
    | true =>
      all_goals repeat' (first | (with_reducible rfl) | ((conv => whnf); first | refine bcase_T (by rw [decide_eq_true_eq]; omega) ?_ | refine ⟨i, rfl, (by rw [List.length_map]; omega), ?_⟩ | refine ⟨_, row_get _ _ (by omega), ?_⟩ | refine ⟨i, _, rfl, row_get _ _ (by omega), rfl, ?_⟩ | refine ⟨_, c_ServerKey w.Master i, ?_⟩ | refine ⟨_, c_AnswerAs w.Servers[i] (servKey w.Master i) k d qs[i] hbig (by omega) (by omega), ?_⟩ | refine bcase_F (by rw [hok]; rfl) ?_ | refine ⟨⟨(by show _ * 72 ≤ _; simp only [List.length_map, List.length_cons, List.length_nil]; omega), bnd⟩, ?_⟩ | refine ⟨i + 1, ⟨arith, arith⟩, sub_at2 [(0, 4, 0), (1, 10, 0), (2, 10, 1), (3, 12, 0), (4, 40, 0)] rfl rfl rfl ?_ ?_⟩ | exact trivial | (with_reducible rfl) | exact (rfl : (0 : Int) = ((0 : Nat) : Int)) | exact w64_nat arith | refine bcase_T (by first | with_reducible rfl | decide) ?_ | refine bcase_F (by first | with_reducible rfl | decide) ?_ | refine bcase_dec (fun _ => ?_) (fun _ => ?_) | refine bcase_not ?_ | refine bcase_intro (fun _ => ?_) (fun _ => ?_) | refine ⟨(by with_reducible rfl), ?_⟩ | refine ⟨congrArg vi ?_, ?_⟩ | refine ⟨congrArg vb ?_, ?_⟩ | refine ⟨rfl, ?_⟩ | refine ⟨(by kernel_rfl : drawOK _ = true), ?_⟩ | refine Or.inl ?_ | refine ⟨⟨congrArg (T.int _) ?_, rfl⟩, ?_⟩ | refine ⟨⟨congrArg T.bool ?_, rfl⟩, ?_⟩ | refine ⟨⟨rfl, Nat.le_of_ble_eq_true rfl⟩, ?_⟩ | refine ⟨⟨rfl, rfl⟩, ?_⟩ | refine ⟨⟨rfl, (by decide)⟩, ?_⟩ | refine ⟨⟨rfl, ?_⟩, ?_⟩ | refine ⟨Or.inr rfl, ?_⟩ | refine ⟨Or.inl rfl, ?_⟩ | refine ⟨⟨⟨rfl, rfl, rfl⟩, ?_⟩, ?_⟩ | refine ⟨_, _, rfl, row_get _ _ arith, rfl, ?_⟩ | refine ⟨Or.inr (by repeat (first | exact trivial | refine ⟨rfl, ?_⟩)), ?_⟩ | refine ⟨(?_ : _ = ([] : List (List T))), ?_⟩ | fail))
      all_goals first
        | with_reducible rfl
        | exact hps.symm
        | rfl
        | trace_state
  all_goals repeat' (first | (with_reducible rfl) | ((conv => whnf); first | exact trivial | (with_reducible rfl) | exact (rfl : (0 : Int) = ((0 : Nat) : Int)) | exact w64_nat arith | refine bcase_T (by first | with_reducible rfl | decide) ?_ | refine bcase_F (by first | with_reducible rfl | decide) ?_ | refine bcase_dec (fun _ => ?_) (fun _ => ?_) | refine bcase_not ?_ | refine bcase_intro (fun _ => ?_) (fun _ => ?_) | refine ⟨(by with_reducible rfl), ?_⟩ | refine ⟨congrArg vi ?_, ?_⟩ | refine ⟨congrArg vb ?_, ?_⟩ | refine ⟨rfl, ?_⟩ | refine ⟨(by kernel_rfl : drawOK _ = true), ?_⟩ | refine Or.inl ?_ | refine ⟨⟨congrArg (T.int _) ?_, rfl⟩, ?_⟩ | refine ⟨⟨congrArg T.bool ?_, rfl⟩, ?_⟩ | refine ⟨⟨rfl, Nat.le_of_ble_eq_true rfl⟩, ?_⟩ | refine ⟨⟨rfl, rfl⟩, ?_⟩ | refine ⟨⟨rfl, (by decide)⟩, ?_⟩ | refine ⟨⟨rfl, ?_⟩, ?_⟩ | refine ⟨Or.inr rfl, ?_⟩ | refine ⟨Or.inl rfl, ?_⟩ | refine ⟨⟨⟨rfl, rfl, rfl⟩, ?_⟩, ?_⟩ | refine ⟨_, _, rfl, row_get _ _ arith, rfl, ?_⟩ | refine ⟨Or.inr (by repeat (first | exact trivial | refine ⟨rfl, ?_⟩)), ?_⟩ | refine ⟨(?_ : _ = ([] : List (List T))), ?_⟩ | fail))
  all_goals first
    | with_reducible rfl
    | (rw [hlq]; done)
    | (unfold preadL; rfl)
    | rfl
    | trace_state
end Go.Proofs.YtmaamiapipngaaaGreat
