/-
  Contracts: a query, and what its seeds are.
  Conditions: none.
-/
import Derived.Test.YtmaamiapipngaaaGreatFnUa
namespace Go.Proofs.YtmaamiapipngaaaGreat
set_option maxHeartbeats 4000000
set_option maxRecDepth 20000
open Go.Vm Go.RowKit
attribute [local irreducible] FnAt MutAt InAt JAt CurAt FnE CurE RegAt
attribute [local irreducible] bits xorSel unitSel randSel
def qStep (n : Int) (ss : List Int) (u : List Int) : Nat → List Int
  | 0 => u
  | k + 1 => match ss[k]? with
    | some s => xorSel (qStep n ss u k) (randSel s n)
    | none => qStep n ss u k
def qRows (n : Int) (ss : List Int) : List (List Int) := ss.map fun s => randSel s n
def mkQ (n i : Int) (ss : List Int) : List (List Int) := if decide ((unitSel n i).length = 0) || !inR ((ss.length : Int) + 1) 2 4 then [] else qRows n ss ++ [qStep n ss (unitSel n i) ss.length]
theorem qStep_succ {n : Int} {ss u : List Int} {k : Nat} (h : k < ss.length) : xorSel (qStep n ss u k) (randSel ss[k] n) = qStep n ss u (k + 1) := by
  simp only [qStep, List.getElem?_eq_getElem h]
theorem qStep_len {n : Int} {ss u : List Int} (hu : u.length ≤ 64) : ∀ k, (qStep n ss u k).length ≤ 64
  | 0 => hu
  | k + 1 => by
    unfold qStep
    split
    · exact xorSel_len _ _
    · exact qStep_len hu k
theorem qRows_take {n : Int} {ss : List Int} {k : Nat} (h : k < ss.length) : ((qRows n ss).take (k + 1)).map (eL eI) = ((qRows n ss).take k).map (eL eI) ++ [[T.lst ((randSel ss[k] n).map eI)]] := by
  have hl : k < (qRows n ss).length := by unfold qRows; rw [List.length_map]; exact h
  have hg : (qRows n ss)[k] = randSel ss[k] n := by simp only [qRows, List.getElem_map]
  rw [List.take_succ_eq_append_getElem hl, List.map_append, hg]
  rfl
theorem qRows_end {n : Int} {ss u : List Int} {k : Nat} (h1 : k ≤ ss.length) (h2 : ¬ (k : Int) < ss.length) : ((qRows n ss).take k).map (eL eI) ++ [[T.lst ((qStep n ss u k).map eI)]] = (qRows n ss ++ [qStep n ss u ss.length]).map (eL eI) := by
  obtain rfl : k = ss.length := by omega
  have hl : (qRows n ss).length = ss.length := by unfold qRows; rw [List.length_map]
  rw [List.take_of_length_le (by omega), List.map_append]
  rfl
theorem unitSel_n {n i : Int} (h : ¬ (unitSel n i).length = 0) : inR n 0 64 = true := by
  unfold unitSel at h
  split at h
  · next h1 =>
    rw [Bool.and_eq_true, inR_iff] at h1
    rw [inR_iff]; omega
  · exact absurd rfl h
theorem c_MakeQuery (n i : Int) (ss : List Int) (hs : ss.length ≤ 1099511627776) : FnAt Tryz.prog 25 [.one (I n), .one (I i), .one (L eI ss)] [.one (.l 1 ((mkQ n i ss).map (eL eI)))] := by
  have hm := lenm eI ss
  have hu := unitSel_len n i
  have hmu := lenm eI (unitSel n i)
  have hw : IntKind.i64.wrap (((ss.map eI).length : Int) + 1) = (ss.length : Int) + 1 := by rw [hm]; exact w64_ok (by omega) (by omega)
  have hql := fun k => qStep_len (n := n) (ss := ss) hu k
  have hrl := fun s => randSel_len s n
  cases h1 : decide ((unitSel n i).length = 0) with
  | true =>
    have e1 : mkQ n i ss = [] := by unfold mkQ; rw [h1]; rfl
    rw [decide_eq_true_eq] at h1
    rw [e1]
    refine fn_of Tryz.func25 rfl (by kernel_rfl) rfl ?_
    all_goals repeat' (first | (with_reducible rfl) | ((conv => whnf); first | refine ⟨_, c_UnitSelection n i, ?_⟩ | refine bcase_T (by rw [hmu, h1]; rfl) ?_ | exact trivial | (with_reducible rfl) | exact (rfl : (0 : Int) = ((0 : Nat) : Int)) | exact w64_nat arith | refine bcase_T (by first | with_reducible rfl | decide) ?_ | refine bcase_F (by first | with_reducible rfl | decide) ?_ | refine bcase_dec (fun _ => ?_) (fun _ => ?_) | refine bcase_not ?_ | refine bcase_intro (fun _ => ?_) (fun _ => ?_) | refine ⟨(by with_reducible rfl), ?_⟩ | refine ⟨congrArg vi ?_, ?_⟩ | refine ⟨congrArg vb ?_, ?_⟩ | refine ⟨rfl, ?_⟩ | refine ⟨(by kernel_rfl : drawOK _ = true), ?_⟩ | refine Or.inl ?_ | refine ⟨⟨congrArg (T.int _) ?_, rfl⟩, ?_⟩ | refine ⟨⟨congrArg T.bool ?_, rfl⟩, ?_⟩ | refine ⟨⟨rfl, Nat.le_of_ble_eq_true rfl⟩, ?_⟩ | refine ⟨⟨rfl, rfl⟩, ?_⟩ | refine ⟨⟨rfl, (by decide)⟩, ?_⟩ | refine ⟨⟨rfl, ?_⟩, ?_⟩ | refine ⟨Or.inr rfl, ?_⟩ | refine ⟨Or.inl rfl, ?_⟩ | refine ⟨⟨⟨rfl, rfl, rfl⟩, ?_⟩, ?_⟩ | refine ⟨_, _, rfl, row_get _ _ arith, rfl, ?_⟩ | refine ⟨Or.inr (by repeat (first | exact trivial | refine ⟨rfl, ?_⟩)), ?_⟩ | refine ⟨(?_ : _ = ([] : List (List T))), ?_⟩ | fail))
    all_goals (try rfl)
  | false =>
  cases h2 : inR ((ss.length : Int) + 1) 2 4 with
  | false =>
    have e1 : mkQ n i ss = [] := by unfold mkQ; rw [h1, h2]; rfl
    rw [decide_eq_false_iff_not] at h1
    rw [e1]
    refine fn_of Tryz.func25 rfl (by kernel_rfl) rfl ?_
    all_goals repeat' (first | (with_reducible rfl) | ((conv => whnf); first | refine ⟨_, c_UnitSelection n i, ?_⟩ | refine ⟨_, fn_args (c_isServerCount ((ss.length : Int) + 1)) (by rw [hw]; rfl), ?_⟩ | refine bcase_F (by rw [hmu, beq_eq_false_iff_ne]; omega) ?_ | refine bcase_T (by rw [h2]; rfl) ?_ | exact trivial | (with_reducible rfl) | exact (rfl : (0 : Int) = ((0 : Nat) : Int)) | exact w64_nat arith | refine bcase_T (by first | with_reducible rfl | decide) ?_ | refine bcase_F (by first | with_reducible rfl | decide) ?_ | refine bcase_dec (fun _ => ?_) (fun _ => ?_) | refine bcase_not ?_ | refine bcase_intro (fun _ => ?_) (fun _ => ?_) | refine ⟨(by with_reducible rfl), ?_⟩ | refine ⟨congrArg vi ?_, ?_⟩ | refine ⟨congrArg vb ?_, ?_⟩ | refine ⟨rfl, ?_⟩ | refine ⟨(by kernel_rfl : drawOK _ = true), ?_⟩ | refine Or.inl ?_ | refine ⟨⟨congrArg (T.int _) ?_, rfl⟩, ?_⟩ | refine ⟨⟨congrArg T.bool ?_, rfl⟩, ?_⟩ | refine ⟨⟨rfl, Nat.le_of_ble_eq_true rfl⟩, ?_⟩ | refine ⟨⟨rfl, rfl⟩, ?_⟩ | refine ⟨⟨rfl, (by decide)⟩, ?_⟩ | refine ⟨⟨rfl, ?_⟩, ?_⟩ | refine ⟨Or.inr rfl, ?_⟩ | refine ⟨Or.inl rfl, ?_⟩ | refine ⟨⟨⟨rfl, rfl, rfl⟩, ?_⟩, ?_⟩ | refine ⟨_, _, rfl, row_get _ _ arith, rfl, ?_⟩ | refine ⟨Or.inr (by repeat (first | exact trivial | refine ⟨rfl, ?_⟩)), ?_⟩ | refine ⟨(?_ : _ = ([] : List (List T))), ?_⟩ | fail))
    all_goals (try rfl)
  | true =>
  have e1 : mkQ n i ss = qRows n ss ++ [qStep n ss (unitSel n i) ss.length] := by unfold mkQ; rw [h1, h2]; rfl
  have hss := inR_iff.1 h2
  rw [decide_eq_false_iff_not] at h1
  rw [e1]
  refine fn_of Tryz.func25 rfl (by kernel_rfl) rfl ?_
  all_goals repeat' (first | (with_reducible rfl) | ((conv => whnf); first | refine ⟨_, c_UnitSelection n i, ?_⟩ | refine ⟨_, fn_args (c_isServerCount ((ss.length : Int) + 1)) (by rw [hw]; rfl), ?_⟩ | refine bcase_F (by rw [hmu, beq_eq_false_iff_ne]; omega) ?_ | refine bcase_F (by rw [h2]; rfl) ?_ | exact trivial | (with_reducible rfl) | exact (rfl : (0 : Int) = ((0 : Nat) : Int)) | exact w64_nat arith | refine bcase_T (by first | with_reducible rfl | decide) ?_ | refine bcase_F (by first | with_reducible rfl | decide) ?_ | refine bcase_dec (fun _ => ?_) (fun _ => ?_) | refine bcase_not ?_ | refine bcase_intro (fun _ => ?_) (fun _ => ?_) | refine ⟨(by with_reducible rfl), ?_⟩ | refine ⟨congrArg vi ?_, ?_⟩ | refine ⟨congrArg vb ?_, ?_⟩ | refine ⟨rfl, ?_⟩ | refine ⟨(by kernel_rfl : drawOK _ = true), ?_⟩ | refine Or.inl ?_ | refine ⟨⟨congrArg (T.int _) ?_, rfl⟩, ?_⟩ | refine ⟨⟨congrArg T.bool ?_, rfl⟩, ?_⟩ | refine ⟨⟨rfl, Nat.le_of_ble_eq_true rfl⟩, ?_⟩ | refine ⟨⟨rfl, rfl⟩, ?_⟩ | refine ⟨⟨rfl, (by decide)⟩, ?_⟩ | refine ⟨⟨rfl, ?_⟩, ?_⟩ | refine ⟨Or.inr rfl, ?_⟩ | refine ⟨Or.inl rfl, ?_⟩ | refine ⟨⟨⟨rfl, rfl, rfl⟩, ?_⟩, ?_⟩ | refine ⟨_, _, rfl, row_get _ _ arith, rfl, ?_⟩ | refine ⟨Or.inr (by repeat (first | exact trivial | refine ⟨rfl, ?_⟩)), ?_⟩ | refine ⟨(?_ : _ = ([] : List (List T))), ?_⟩ | fail))
  conv => whnf
  refine ⟨Nat, fun k => k ≤ ss.length, fun k => ⟨[(0, vi n), (7, .c (.ref 0)), (8, .c (.ref 1)), (26, vl (ss.map eI)), (27, vi ss.length), (28, vi k)], [(0, .row true true 1 ((qStep n ss (unitSel n i) k).map eI)), (1, .row true true 1 (((qRows n ss).take k).map (eL eI)))], 2⟩, fun k => ss.length - k, 0, Nat.zero_le _, sub_at [(0, 7), (1, 8)] rfl rfl rfl ?_ ?_, fun k (hk : k ≤ ss.length) => ?_⟩
  all_goals repeat' (first | (with_reducible rfl) | ((conv => whnf); first | refine Or.inr (vw ?_) | refine ⟨k, _, rfl, row_get _ _ arith, rfl, ?_⟩ | refine ⟨_, c_RandomSelection (ss[k]'(by omega)) n, ?_⟩ | refine ⟨_, c_XorSelections (qStep n ss (unitSel n i) k) (randSel (ss[k]'(by omega)) n) (Nat.le_trans (hql k) (by decide)) (Nat.le_trans (hrl _) (by decide)), ?_⟩ | refine ⟨⟨bnd, bnd⟩, ?_⟩ | refine ⟨k + 1, ⟨arith, arith⟩, sub_at [(0, 7), (1, 8)] rfl rfl rfl ?_ ?_⟩ | exact trivial | (with_reducible rfl) | exact (rfl : (0 : Int) = ((0 : Nat) : Int)) | exact w64_nat arith | refine bcase_T (by first | with_reducible rfl | decide) ?_ | refine bcase_F (by first | with_reducible rfl | decide) ?_ | refine bcase_dec (fun _ => ?_) (fun _ => ?_) | refine bcase_not ?_ | refine bcase_intro (fun _ => ?_) (fun _ => ?_) | refine ⟨(by with_reducible rfl), ?_⟩ | refine ⟨congrArg vi ?_, ?_⟩ | refine ⟨congrArg vb ?_, ?_⟩ | refine ⟨rfl, ?_⟩ | refine ⟨(by kernel_rfl : drawOK _ = true), ?_⟩ | refine Or.inl ?_ | refine ⟨⟨congrArg (T.int _) ?_, rfl⟩, ?_⟩ | refine ⟨⟨congrArg T.bool ?_, rfl⟩, ?_⟩ | refine ⟨⟨rfl, Nat.le_of_ble_eq_true rfl⟩, ?_⟩ | refine ⟨⟨rfl, rfl⟩, ?_⟩ | refine ⟨⟨rfl, (by decide)⟩, ?_⟩ | refine ⟨⟨rfl, ?_⟩, ?_⟩ | refine ⟨Or.inr rfl, ?_⟩ | refine ⟨Or.inl rfl, ?_⟩ | refine ⟨⟨⟨rfl, rfl, rfl⟩, ?_⟩, ?_⟩ | refine ⟨_, _, rfl, row_get _ _ arith, rfl, ?_⟩ | refine ⟨Or.inr (by repeat (first | exact trivial | refine ⟨rfl, ?_⟩)), ?_⟩ | refine ⟨(?_ : _ = ([] : List (List T))), ?_⟩ | fail))
  all_goals first
    | rfl
    | exact hm
    | (rw [List.length_map]; done)
    | (rw [qStep_succ arith]; done)
    | exact (qRows_take arith).symm
    | exact qRows_end (by assumption) (by omega)
    | trace_state
theorem c_sMakeQuery (n i : Int) (ss : List Int) (hs : ss.length ≤ 1099511627776) : FnAt Tryz.prog 49 [.one (I n), .one (I i), .one (L eI ss)] [.one (.l 1 ((mkQ n i ss).map (eL eI)))] := by
  have hm := lenm eI ss
  have hu := unitSel_len n i
  have hmu := lenm eI (unitSel n i)
  have hw : IntKind.i64.wrap (((ss.map eI).length : Int) + 1) = (ss.length : Int) + 1 := by rw [hm]; exact w64_ok (by omega) (by omega)
  have hql := fun k => qStep_len (n := n) (ss := ss) hu k
  have hrl := fun s => randSel_len s n
  cases h1 : decide ((unitSel n i).length = 0) with
  | true =>
    have e1 : mkQ n i ss = [] := by unfold mkQ; rw [h1]; rfl
    rw [decide_eq_true_eq] at h1
    rw [e1]
    refine fn_of Tryz.func49 rfl (by kernel_rfl) rfl ?_
    all_goals repeat' (first | (with_reducible rfl) | ((conv => whnf); first | refine ⟨_, c_sUnitSelection n i, ?_⟩ | refine bcase_T (by rw [hmu, h1]; rfl) ?_ | exact trivial | (with_reducible rfl) | exact (rfl : (0 : Int) = ((0 : Nat) : Int)) | exact w64_nat arith | refine bcase_T (by first | with_reducible rfl | decide) ?_ | refine bcase_F (by first | with_reducible rfl | decide) ?_ | refine bcase_dec (fun _ => ?_) (fun _ => ?_) | refine bcase_not ?_ | refine bcase_intro (fun _ => ?_) (fun _ => ?_) | refine ⟨(by with_reducible rfl), ?_⟩ | refine ⟨congrArg vi ?_, ?_⟩ | refine ⟨congrArg vb ?_, ?_⟩ | refine ⟨rfl, ?_⟩ | refine ⟨(by kernel_rfl : drawOK _ = true), ?_⟩ | refine Or.inl ?_ | refine ⟨⟨congrArg (T.int _) ?_, rfl⟩, ?_⟩ | refine ⟨⟨congrArg T.bool ?_, rfl⟩, ?_⟩ | refine ⟨⟨rfl, Nat.le_of_ble_eq_true rfl⟩, ?_⟩ | refine ⟨⟨rfl, rfl⟩, ?_⟩ | refine ⟨⟨rfl, (by decide)⟩, ?_⟩ | refine ⟨⟨rfl, ?_⟩, ?_⟩ | refine ⟨Or.inr rfl, ?_⟩ | refine ⟨Or.inl rfl, ?_⟩ | refine ⟨⟨⟨rfl, rfl, rfl⟩, ?_⟩, ?_⟩ | refine ⟨_, _, rfl, row_get _ _ arith, rfl, ?_⟩ | refine ⟨Or.inr (by repeat (first | exact trivial | refine ⟨rfl, ?_⟩)), ?_⟩ | refine ⟨(?_ : _ = ([] : List (List T))), ?_⟩ | fail))
    all_goals (try rfl)
  | false =>
  cases h2 : inR ((ss.length : Int) + 1) 2 4 with
  | false =>
    have e1 : mkQ n i ss = [] := by unfold mkQ; rw [h1, h2]; rfl
    rw [decide_eq_false_iff_not] at h1
    rw [e1]
    refine fn_of Tryz.func49 rfl (by kernel_rfl) rfl ?_
    all_goals repeat' (first | (with_reducible rfl) | ((conv => whnf); first | refine ⟨_, c_sUnitSelection n i, ?_⟩ | refine ⟨_, fn_args (c_l7Count ((ss.length : Int) + 1)) (by rw [hw]; rfl), ?_⟩ | refine bcase_F (by rw [hmu, beq_eq_false_iff_ne]; omega) ?_ | refine bcase_T (by rw [h2]; rfl) ?_ | exact trivial | (with_reducible rfl) | exact (rfl : (0 : Int) = ((0 : Nat) : Int)) | exact w64_nat arith | refine bcase_T (by first | with_reducible rfl | decide) ?_ | refine bcase_F (by first | with_reducible rfl | decide) ?_ | refine bcase_dec (fun _ => ?_) (fun _ => ?_) | refine bcase_not ?_ | refine bcase_intro (fun _ => ?_) (fun _ => ?_) | refine ⟨(by with_reducible rfl), ?_⟩ | refine ⟨congrArg vi ?_, ?_⟩ | refine ⟨congrArg vb ?_, ?_⟩ | refine ⟨rfl, ?_⟩ | refine ⟨(by kernel_rfl : drawOK _ = true), ?_⟩ | refine Or.inl ?_ | refine ⟨⟨congrArg (T.int _) ?_, rfl⟩, ?_⟩ | refine ⟨⟨congrArg T.bool ?_, rfl⟩, ?_⟩ | refine ⟨⟨rfl, Nat.le_of_ble_eq_true rfl⟩, ?_⟩ | refine ⟨⟨rfl, rfl⟩, ?_⟩ | refine ⟨⟨rfl, (by decide)⟩, ?_⟩ | refine ⟨⟨rfl, ?_⟩, ?_⟩ | refine ⟨Or.inr rfl, ?_⟩ | refine ⟨Or.inl rfl, ?_⟩ | refine ⟨⟨⟨rfl, rfl, rfl⟩, ?_⟩, ?_⟩ | refine ⟨_, _, rfl, row_get _ _ arith, rfl, ?_⟩ | refine ⟨Or.inr (by repeat (first | exact trivial | refine ⟨rfl, ?_⟩)), ?_⟩ | refine ⟨(?_ : _ = ([] : List (List T))), ?_⟩ | fail))
    all_goals (try rfl)
  | true =>
  have e1 : mkQ n i ss = qRows n ss ++ [qStep n ss (unitSel n i) ss.length] := by unfold mkQ; rw [h1, h2]; rfl
  have hss := inR_iff.1 h2
  rw [decide_eq_false_iff_not] at h1
  rw [e1]
  refine fn_of Tryz.func49 rfl (by kernel_rfl) rfl ?_
  all_goals repeat' (first | (with_reducible rfl) | ((conv => whnf); first | refine ⟨_, c_sUnitSelection n i, ?_⟩ | refine ⟨_, fn_args (c_l7Count ((ss.length : Int) + 1)) (by rw [hw]; rfl), ?_⟩ | refine bcase_F (by rw [hmu, beq_eq_false_iff_ne]; omega) ?_ | refine bcase_F (by rw [h2]; rfl) ?_ | exact trivial | (with_reducible rfl) | exact (rfl : (0 : Int) = ((0 : Nat) : Int)) | exact w64_nat arith | refine bcase_T (by first | with_reducible rfl | decide) ?_ | refine bcase_F (by first | with_reducible rfl | decide) ?_ | refine bcase_dec (fun _ => ?_) (fun _ => ?_) | refine bcase_not ?_ | refine bcase_intro (fun _ => ?_) (fun _ => ?_) | refine ⟨(by with_reducible rfl), ?_⟩ | refine ⟨congrArg vi ?_, ?_⟩ | refine ⟨congrArg vb ?_, ?_⟩ | refine ⟨rfl, ?_⟩ | refine ⟨(by kernel_rfl : drawOK _ = true), ?_⟩ | refine Or.inl ?_ | refine ⟨⟨congrArg (T.int _) ?_, rfl⟩, ?_⟩ | refine ⟨⟨congrArg T.bool ?_, rfl⟩, ?_⟩ | refine ⟨⟨rfl, Nat.le_of_ble_eq_true rfl⟩, ?_⟩ | refine ⟨⟨rfl, rfl⟩, ?_⟩ | refine ⟨⟨rfl, (by decide)⟩, ?_⟩ | refine ⟨⟨rfl, ?_⟩, ?_⟩ | refine ⟨Or.inr rfl, ?_⟩ | refine ⟨Or.inl rfl, ?_⟩ | refine ⟨⟨⟨rfl, rfl, rfl⟩, ?_⟩, ?_⟩ | refine ⟨_, _, rfl, row_get _ _ arith, rfl, ?_⟩ | refine ⟨Or.inr (by repeat (first | exact trivial | refine ⟨rfl, ?_⟩)), ?_⟩ | refine ⟨(?_ : _ = ([] : List (List T))), ?_⟩ | fail))
  conv => whnf
  refine ⟨Nat, fun k => k ≤ ss.length, fun k => ⟨[(0, vi n), (2, vl (ss.map eI)), (7, .c (.ref 1)), (8, .c (.ref 0)), (9, vi k)], [(0, .row true true 1 ((qStep n ss (unitSel n i) k).map eI)), (1, .row true true 1 (((qRows n ss).take k).map (eL eI)))], 2⟩, fun k => ss.length - k, 0, Nat.zero_le _, sub_at [(0, 8), (1, 7)] rfl rfl rfl ?_ ?_, fun k (hk : k ≤ ss.length) => ?_⟩
  all_goals repeat' (first | (with_reducible rfl) | ((conv => whnf); first | refine Or.inr (vw ?_) | refine ⟨k, _, rfl, row_get _ _ arith, rfl, ?_⟩ | refine ⟨_, c_sRandomSelection (ss[k]'(by omega)) n (unitSel_n h1), ?_⟩ | refine ⟨_, c_sXorSelections (qStep n ss (unitSel n i) k) (randSel (ss[k]'(by omega)) n) (Nat.le_trans (hql k) (by decide)) (Nat.le_trans (hrl _) (by decide)), ?_⟩ | refine ⟨⟨bnd, bnd⟩, ?_⟩ | refine ⟨k + 1, ⟨arith, arith⟩, sub_at [(0, 8), (1, 7)] rfl rfl rfl ?_ ?_⟩ | exact trivial | (with_reducible rfl) | exact (rfl : (0 : Int) = ((0 : Nat) : Int)) | exact w64_nat arith | refine bcase_T (by first | with_reducible rfl | decide) ?_ | refine bcase_F (by first | with_reducible rfl | decide) ?_ | refine bcase_dec (fun _ => ?_) (fun _ => ?_) | refine bcase_not ?_ | refine bcase_intro (fun _ => ?_) (fun _ => ?_) | refine ⟨(by with_reducible rfl), ?_⟩ | refine ⟨congrArg vi ?_, ?_⟩ | refine ⟨congrArg vb ?_, ?_⟩ | refine ⟨rfl, ?_⟩ | refine ⟨(by kernel_rfl : drawOK _ = true), ?_⟩ | refine Or.inl ?_ | refine ⟨⟨congrArg (T.int _) ?_, rfl⟩, ?_⟩ | refine ⟨⟨congrArg T.bool ?_, rfl⟩, ?_⟩ | refine ⟨⟨rfl, Nat.le_of_ble_eq_true rfl⟩, ?_⟩ | refine ⟨⟨rfl, rfl⟩, ?_⟩ | refine ⟨⟨rfl, (by decide)⟩, ?_⟩ | refine ⟨⟨rfl, ?_⟩, ?_⟩ | refine ⟨Or.inr rfl, ?_⟩ | refine ⟨Or.inl rfl, ?_⟩ | refine ⟨⟨⟨rfl, rfl, rfl⟩, ?_⟩, ?_⟩ | refine ⟨_, _, rfl, row_get _ _ arith, rfl, ?_⟩ | refine ⟨Or.inr (by repeat (first | exact trivial | refine ⟨rfl, ?_⟩)), ?_⟩ | refine ⟨(?_ : _ = ([] : List (List T))), ?_⟩ | fail))
  all_goals first
    | rfl
    | exact hm
    | (rw [List.length_map]; done)
    | (rw [qStep_succ arith]; done)
    | exact (qRows_take arith).symm
    | exact qRows_end (by assumption) (by omega)
    | trace_state
end Go.Proofs.YtmaamiapipngaaaGreat
