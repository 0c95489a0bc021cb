/-
  Contracts: servers that are tested with a query.
  Conditions: none.
-/
import Derived.Test.YtdbgmncapignoaaGreatFnTs2
namespace Go.Proofs.YtdbgmncapignoaaGreat
set_option maxHeartbeats 4000000
set_option maxRecDepth 20000
open Go.Vm Go.RowKit
attribute [local irreducible] FnAt MutAt InAt JAt CurAt

attribute [local irreducible] worldOk ansAs falseAns servKey guiltyS guiltyR freshS archHas archDb lastRound newServer
theorem c_sTestServers (w : DWorld) (h : bigW w) (h8 : w.Devices.length ≤ 1048576) (hr : w.Replaced.length ≤ 1048576) (hd5 : ∀ r ∈ w.Archive.Rounds, ∀ x ∈ r.Database.Rows, x.length ≤ 1048576) : FnAt Tryz.prog 20 [.agg (DWorld.e w)] [.agg (DWorld.r (testW w))] := by
  have hA := h.2.2.1
  cases h1 : worldOk w with
  | false =>
    have e : testW w = w := by unfold testW testOk; rw [h1]; rfl
    rw [e]
    refine fn_of Tryz.func20 rfl (by kernel_rfl) rfl ?_
    all_goals repeat' (first
      | (with_reducible rfl)
      | (conv => whnf
         first
           | refine ⟨_, c_l32Copy w h h8, ?_⟩
           | refine ⟨_, c_sLastRound w.Archive hA.1, ?_⟩
           | refine ⟨_, c_sArchivedDatabase w.Archive (lastRound w.Archive) hA, ?_⟩
           | refine ⟨_, c_sIsValidWorld w h, ?_⟩
           | refine bcase_T (by rw [h1]; rfl) ?_
           | exact trivial
           | (with_reducible rfl)
           | exact (rfl : (0 : Int) = ((0 : Nat) : Int))
           | exact w64_nat arith
           | refine bcase_T (by first | with_reducible rfl | decide) ?_
           | refine bcase_F (by first | with_reducible rfl | decide) ?_
           | refine bcase_dec (fun _ => ?_) (fun _ => ?_)
           | refine bcase_not ?_
           | refine bcase_intro (fun _ => ?_) (fun _ => ?_)
           | refine ⟨(by with_reducible rfl), ?_⟩
           | refine ⟨congrArg vi ?_, ?_⟩
           | refine ⟨congrArg vb ?_, ?_⟩
           | refine ⟨rfl, ?_⟩
           | refine ⟨(by kernel_rfl : drawOK _ = true), ?_⟩
           | refine Or.inl ?_
           | refine ⟨⟨congrArg (T.int _) ?_, rfl⟩, ?_⟩
           | refine ⟨⟨congrArg T.bool ?_, rfl⟩, ?_⟩
           | refine ⟨⟨rfl, Nat.le_of_ble_eq_true rfl⟩, ?_⟩
           | refine ⟨⟨rfl, rfl⟩, ?_⟩
           | refine ⟨⟨rfl, (by decide)⟩, ?_⟩
           | refine ⟨⟨rfl, ?_⟩, ?_⟩
           | refine ⟨Or.inr rfl, ?_⟩
           | refine ⟨Or.inl rfl, ?_⟩
           | refine ⟨⟨⟨rfl, rfl, rfl⟩, ?_⟩, ?_⟩
           | refine ⟨_, _, rfl, row_get _ _ arith, rfl, ?_⟩
           | refine ⟨Or.inr (by repeat (first | exact trivial | refine ⟨rfl, ?_⟩)), ?_⟩
           | refine ⟨(?_ : _ = ([] : List (List T))), ?_⟩
           | fail))
    all_goals rfl
  | true =>
  cases h2 : archHas w.Archive (lastRound w.Archive) with
  | false =>
    have e : testW w = w := by unfold testW testOk; rw [h1, h2]; rfl
    rw [e]
    refine fn_of Tryz.func20 rfl (by kernel_rfl) rfl ?_
    all_goals repeat' (first
      | (with_reducible rfl)
      | (conv => whnf
         first
           | refine ⟨_, c_l32Copy w h h8, ?_⟩
           | refine ⟨_, c_sLastRound w.Archive hA.1, ?_⟩
           | refine ⟨_, c_sArchivedDatabase w.Archive (lastRound w.Archive) hA, ?_⟩
           | refine ⟨_, c_sIsValidWorld w h, ?_⟩
           | refine bcase_F (by rw [h1]; rfl) ?_
           | refine bcase_T (by rw [h2]; rfl) ?_
           | exact trivial
           | (with_reducible rfl)
           | exact (rfl : (0 : Int) = ((0 : Nat) : Int))
           | exact w64_nat arith
           | refine bcase_T (by first | with_reducible rfl | decide) ?_
           | refine bcase_F (by first | with_reducible rfl | decide) ?_
           | refine bcase_dec (fun _ => ?_) (fun _ => ?_)
           | refine bcase_not ?_
           | refine bcase_intro (fun _ => ?_) (fun _ => ?_)
           | refine ⟨(by with_reducible rfl), ?_⟩
           | refine ⟨congrArg vi ?_, ?_⟩
           | refine ⟨congrArg vb ?_, ?_⟩
           | refine ⟨rfl, ?_⟩
           | refine ⟨(by kernel_rfl : drawOK _ = true), ?_⟩
           | refine Or.inl ?_
           | refine ⟨⟨congrArg (T.int _) ?_, rfl⟩, ?_⟩
           | refine ⟨⟨congrArg T.bool ?_, rfl⟩, ?_⟩
           | refine ⟨⟨rfl, Nat.le_of_ble_eq_true rfl⟩, ?_⟩
           | refine ⟨⟨rfl, rfl⟩, ?_⟩
           | refine ⟨⟨rfl, (by decide)⟩, ?_⟩
           | refine ⟨⟨rfl, ?_⟩, ?_⟩
           | refine ⟨Or.inr rfl, ?_⟩
           | refine ⟨Or.inl rfl, ?_⟩
           | refine ⟨⟨⟨rfl, rfl, rfl⟩, ?_⟩, ?_⟩
           | refine ⟨_, _, rfl, row_get _ _ arith, rfl, ?_⟩
           | refine ⟨Or.inr (by repeat (first | exact trivial | refine ⟨rfl, ?_⟩)), ?_⟩
           | refine ⟨(?_ : _ = ([] : List (List T))), ?_⟩
           | fail))
    all_goals rfl
  | true =>
  have hnone := fun key s r v => test_none h1 h2 key (s := s) (r := r) (v := v)
  have e : testW w = ⟨w.Rows, guiltyS w (testL w), w.Devices, w.Archive, w.Master, w.Seed, w.Round, guiltyR w (testL w), w.Cancelled⟩ := by unfold testW testOk; rw [h1, h2]; rfl
  have etl : testL w = badL w (archDb w.Archive (lastRound w.Archive)) (lastRound w.Archive) w.Servers.length := rfl
  rw [e, etl]
  obtain ⟨hw1, _, _, hw4⟩ := worldOk_hd h1
  have hw5 := inR_iff.1 hw4
  have hw6 := inR_iff.1 hw1
  have hrn : inR w.Rows 0 64 = true := inR_iff.2 ⟨by omega, by omega⟩
  obtain ⟨q, hq, hdq⟩ := archDb_mem h2
  have hbig : bigB (archDb w.Archive (lastRound w.Archive)).Rows := by rw [hdq]; exact hA.2 q hq
  have hql : ∀ v, (ansQ (archDb w.Archive (lastRound w.Archive)) v).length ≤ 1048600 := fun v => by
    unfold ansQ
    split
    · rw [xorB_len, zero24_len]
      have := selX_len (v := v) (B := 1048576) (rows := (archDb w.Archive (lastRound w.Archive)).Rows) (by rw [hdq]; exact hd5 q hq) (archDb w.Archive (lastRound w.Archive)).Rows.length
      omega
    · simp
  have hrd := worldOk_round h1
  have hws : IntKind.i64.wrap ((w.Servers.length : Int) - 1) = (w.Servers.length : Int) - 1 := w64_ok (by omega) (by omega)
  have hc1 := c_sLastRound w.Archive hA.1
  have hc2 := c_sArchivedDatabase w.Archive (lastRound w.Archive) hA
  rw [h2] at hc2
  generalize hk : lastRound w.Archive = k at *
  generalize hdd : archDb w.Archive k = d at *
  refine fn_of Tryz.func20 rfl (by kernel_rfl) rfl ?_
  all_goals repeat' (first
    | (with_reducible rfl)
    | (conv => whnf
       first
         | refine ⟨_, c_l32Copy w h h8, ?_⟩
         | refine ⟨_, hc1, ?_⟩
         | refine ⟨_, hc2, ?_⟩
         | refine ⟨_, c_sIsValidWorld w h, ?_⟩
         | refine bcase_F (by rw [h1]; rfl) ?_
         | refine bcase_F (by rfl) ?_
         | exact trivial
         | (with_reducible rfl)
         | exact (rfl : (0 : Int) = ((0 : Nat) : Int))
         | exact w64_nat arith
         | refine bcase_T (by first | with_reducible rfl | decide) ?_
         | refine bcase_F (by first | with_reducible rfl | decide) ?_
         | refine bcase_dec (fun _ => ?_) (fun _ => ?_)
         | refine bcase_not ?_
         | refine bcase_intro (fun _ => ?_) (fun _ => ?_)
         | refine ⟨(by with_reducible rfl), ?_⟩
         | refine ⟨congrArg vi ?_, ?_⟩
         | refine ⟨congrArg vb ?_, ?_⟩
         | refine ⟨rfl, ?_⟩
         | refine ⟨(by kernel_rfl : drawOK _ = true), ?_⟩
         | refine Or.inl ?_
         | refine ⟨⟨congrArg (T.int _) ?_, rfl⟩, ?_⟩
         | refine ⟨⟨congrArg T.bool ?_, rfl⟩, ?_⟩
         | refine ⟨⟨rfl, Nat.le_of_ble_eq_true rfl⟩, ?_⟩
         | refine ⟨⟨rfl, rfl⟩, ?_⟩
         | refine ⟨⟨rfl, (by decide)⟩, ?_⟩
         | refine ⟨⟨rfl, ?_⟩, ?_⟩
         | refine ⟨Or.inr rfl, ?_⟩
         | refine ⟨Or.inl rfl, ?_⟩
         | refine ⟨⟨⟨rfl, rfl, rfl⟩, ?_⟩, ?_⟩
         | refine ⟨_, _, rfl, row_get _ _ arith, rfl, ?_⟩
         | refine ⟨Or.inr (by repeat (first | exact trivial | refine ⟨rfl, ?_⟩)), ?_⟩
         | refine ⟨(?_ : _ = ([] : List (List T))), ?_⟩
         | fail))
  conv => whnf
  refine ⟨Nat, fun i => i ≤ w.Servers.length, fun i => ⟨[(1, .ptr 6 0), (2, .ptr 0 0), (3, .ptr 1 0), (4, vi k), (5, .ptr 7 0), (7, vi i)], [(0, .box [.t (I 0), .nil, .nil, .t (I 0), .nil, .t (I 0), .t (I 0), .t (I 0), .nil, .t (I 0)]), (1, .box [.t (I w.Rows), .ref 2, .ref 3, .t (I w.Archive.Rows), .ref 4, .t (I w.Master), .t (I w.Seed), .t (I w.Round), .ref 5, .t (I w.Cancelled)]), (2, .row true true 5 ((guiltyS w (badL w d k i)).map DServer.e)), (3, .row true true 16 (w.Devices.map DDevice.e)), (4, .row true true 2 (w.Archive.Rounds.map DArchivedRound.e)), (5, .row true true 1 ((guiltyR w (badL w d k i)).map eI)), (6, .box ((DWorld.e w).map .t)), (7, .box [.ref 8]), (8, .row true true 1 (d.Rows.map (eL eU)))], 9⟩, fun i => w.Servers.length - i, 0, Nat.zero_le _, sub_at2 [(0, 2, 0), (1, 3, 0), (2, 3, 2), (3, 3, 3), (4, 3, 5), (5, 3, 9), (6, 1, 0), (7, 5, 0), (8, 5, 1)] rfl rfl rfl ?_ ?_, fun i (hi : i ≤ w.Servers.length) => ?_⟩
  case' refine_3 =>
    by_cases hin : i < w.Servers.length
    case neg =>
      have hie : i = w.Servers.length := by omega
      all_goals repeat' (first
        | (with_reducible rfl)
        | (conv => whnf
           first
             | refine bcase_F (by rw [decide_eq_false_iff_not]; (try rw [List.length_map]); omega) ?_
             | exact trivial
             | (with_reducible rfl)
             | exact (rfl : (0 : Int) = ((0 : Nat) : Int))
             | exact w64_nat arith
             | refine bcase_T (by first | with_reducible rfl | decide) ?_
             | refine bcase_F (by first | with_reducible rfl | decide) ?_
             | refine bcase_dec (fun _ => ?_) (fun _ => ?_)
             | refine bcase_not ?_
             | refine bcase_intro (fun _ => ?_) (fun _ => ?_)
             | refine ⟨(by with_reducible rfl), ?_⟩
             | refine ⟨congrArg vi ?_, ?_⟩
             | refine ⟨congrArg vb ?_, ?_⟩
             | refine ⟨rfl, ?_⟩
             | refine ⟨(by kernel_rfl : drawOK _ = true), ?_⟩
             | refine Or.inl ?_
             | refine ⟨⟨congrArg (T.int _) ?_, rfl⟩, ?_⟩
             | refine ⟨⟨congrArg T.bool ?_, rfl⟩, ?_⟩
             | refine ⟨⟨rfl, Nat.le_of_ble_eq_true rfl⟩, ?_⟩
             | refine ⟨⟨rfl, rfl⟩, ?_⟩
             | refine ⟨⟨rfl, (by decide)⟩, ?_⟩
             | refine ⟨⟨rfl, ?_⟩, ?_⟩
             | refine ⟨Or.inr rfl, ?_⟩
             | refine ⟨Or.inl rfl, ?_⟩
             | refine ⟨⟨⟨rfl, rfl, rfl⟩, ?_⟩, ?_⟩
             | refine ⟨_, _, rfl, row_get _ _ arith, rfl, ?_⟩
             | refine ⟨Or.inr (by repeat (first | exact trivial | refine ⟨rfl, ?_⟩)), ?_⟩
             | refine ⟨(?_ : _ = ([] : List (List T))), ?_⟩
             | fail))
      all_goals first
        | rfl
        | (rw [hie]; done)
    have hbe := badAns_eq w d k hin
    have hgi : inR (i : Int) 0 ((w.Servers.length : Int) - 1) = true := inR_iff.2 ⟨by omega, by omega⟩
    have hvl := randSel_len (khash w.Seed [227, w.Round, (i : Int)]) w.Rows
    have hal := ansAs_len w.Servers[i] (servKey w.Master i) k d (randSel (khash w.Seed [227, w.Round, (i : Int)]) w.Rows)
    have hqv := hql (randSel (khash w.Seed [227, w.Round, (i : Int)]) w.Rows)
    have hrl := testR_len w d k i
    cases hb : badAns w d k i with
    | true =>
      have hb2 := hb
      rw [hbe] at hb2
      have hok : ansOk d (randSel (khash w.Seed [227, w.Round, (i : Int)]) w.Rows) = true := by
        cases ho : ansOk d (randSel (khash w.Seed [227, w.Round, (i : Int)]) w.Rows) with
        | true => rfl
        | false => have hx := hnone (servKey w.Master i) w.Servers[i] k _ ho; rw [show falseAns (servKey w.Master i) d (ansAs w.Servers[i] (servKey w.Master i) k d (randSel (khash w.Seed [227, w.Round, (i : Int)]) w.Rows)) = true from hb2] at hx; cases hx
      all_goals repeat' (first
        | (with_reducible rfl)
        | (conv => whnf
           first
             | refine bcase_T (by rw [decide_eq_true_eq]; (try rw [List.length_map]); omega) ?_
             | refine ⟨i, _, rfl, row_get _ _ (by omega), rfl, ?_⟩
             | refine ⟨_, c_sServerKey w.Master i, ?_⟩
             | refine ⟨_, fn_args (c_sKeyedHash w.Seed [227, w.Round, (i : Int)] (by simp)) (by rfl), ?_⟩
             | refine ⟨_, c_sRandomSelection (khash w.Seed [227, w.Round, (i : Int)]) w.Rows hrn, ?_⟩
             | refine ⟨_, c_sAnswerAs w.Servers[i] (servKey w.Master i) k d (randSel (khash w.Seed [227, w.Round, (i : Int)]) w.Rows) hbig (by omega) (by omega), ?_⟩
             | refine ⟨_, c_sIsFalseAnswer (servKey w.Master i) d (testAns w d k i w.Servers[i]) hbig (by unfold testAns; omega) (by unfold testAns; omega), ?_⟩
             | refine bcase_T hok ?_
             | refine bcase_T hb2 ?_
             | (refine Or.inr ⟨rfl, Or.inr (Or.inr ?_)⟩; (conv => whnf); refine jat_ Tryz.func65 rfl (by kernel_rfl) (by rfl) (by rfl) ?_)
             | refine ⟨_, fn_args (c_l1In (i : Int) 0 ((w.Servers.length : Int) - 1)) (by rw [List.length_map, guiltyS_len, hws]; rfl), ?_⟩
             | refine bcase_F (by rw [hgi]; rfl) ?_
             | refine ⟨_, c_sNewServer (i : Int) w.Rows 0, ?_⟩
             | refine ⟨i, rfl, (by rw [List.length_map, guiltyS_len]; omega), ?_⟩
             | refine ⟨_, test_row w _ hin, ⟨rfl, Nat.le_of_ble_eq_true rfl⟩, ?_⟩
             | refine ⟨true, fun _ => (by simp [isScal]), ⟨rfl, rfl⟩, ⟨bnd, bnd⟩, ?_⟩
             | refine ⟨i + 1, ⟨arith, arith⟩, sub_at2 [(0, 2, 0), (1, 3, 0), (2, 3, 2), (3, 3, 3), (4, 3, 5), (5, 3, 9), (6, 1, 0), (7, 5, 0), (8, 5, 1)] rfl rfl rfl ?_ ?_⟩
             | exact trivial
             | (with_reducible rfl)
             | exact (rfl : (0 : Int) = ((0 : Nat) : Int))
             | exact w64_nat arith
             | refine bcase_T (by first | with_reducible rfl | decide) ?_
             | refine bcase_F (by first | with_reducible rfl | decide) ?_
             | refine bcase_dec (fun _ => ?_) (fun _ => ?_)
             | refine bcase_not ?_
             | refine bcase_intro (fun _ => ?_) (fun _ => ?_)
             | refine ⟨(by with_reducible rfl), ?_⟩
             | refine ⟨congrArg vi ?_, ?_⟩
             | refine ⟨congrArg vb ?_, ?_⟩
             | refine ⟨rfl, ?_⟩
             | refine ⟨(by kernel_rfl : drawOK _ = true), ?_⟩
             | refine Or.inl ?_
             | refine ⟨⟨congrArg (T.int _) ?_, rfl⟩, ?_⟩
             | refine ⟨⟨congrArg T.bool ?_, rfl⟩, ?_⟩
             | refine ⟨⟨rfl, Nat.le_of_ble_eq_true rfl⟩, ?_⟩
             | refine ⟨⟨rfl, rfl⟩, ?_⟩
             | refine ⟨⟨rfl, (by decide)⟩, ?_⟩
             | refine ⟨⟨rfl, ?_⟩, ?_⟩
             | refine ⟨Or.inr rfl, ?_⟩
             | refine ⟨Or.inl rfl, ?_⟩
             | refine ⟨⟨⟨rfl, rfl, rfl⟩, ?_⟩, ?_⟩
             | refine ⟨_, _, rfl, row_get _ _ arith, rfl, ?_⟩
             | refine ⟨Or.inr (by repeat (first | exact trivial | refine ⟨rfl, ?_⟩)), ?_⟩
             | refine ⟨(?_ : _ = ([] : List (List T))), ?_⟩
             | fail))
      all_goals first
        | rfl
        | (rw [List.length_map]; done)
        | exact testS_T' w d k hin hb hrd
        | exact testS_T w d k hin hb
        | exact testR_T w d k hin hb
        | exact testS_F w d k hb
        | exact testR_F w d k hb
        | skip
    | false =>
      have hb2 := hb
      rw [hbe] at hb2
      cases hok : ansOk d (randSel (khash w.Seed [227, w.Round, (i : Int)]) w.Rows) with
      | true =>
        all_goals repeat' (first
          | (with_reducible rfl)
          | (conv => whnf
             first
               | refine bcase_T (by rw [decide_eq_true_eq]; (try rw [List.length_map]); omega) ?_
               | refine ⟨i, _, rfl, row_get _ _ (by omega), rfl, ?_⟩
               | refine ⟨_, c_sServerKey w.Master i, ?_⟩
               | refine ⟨_, fn_args (c_sKeyedHash w.Seed [227, w.Round, (i : Int)] (by simp)) (by rfl), ?_⟩
               | refine ⟨_, c_sRandomSelection (khash w.Seed [227, w.Round, (i : Int)]) w.Rows hrn, ?_⟩
               | refine ⟨_, c_sAnswerAs w.Servers[i] (servKey w.Master i) k d (randSel (khash w.Seed [227, w.Round, (i : Int)]) w.Rows) hbig (by omega) (by omega), ?_⟩
               | refine ⟨_, c_sIsFalseAnswer (servKey w.Master i) d (testAns w d k i w.Servers[i]) hbig (by unfold testAns; omega) (by unfold testAns; omega), ?_⟩
               | refine bcase_T hok ?_
               | refine bcase_F hb2 ?_
               | refine ⟨i + 1, ⟨arith, arith⟩, sub_at2 [(0, 2, 0), (1, 3, 0), (2, 3, 2), (3, 3, 3), (4, 3, 5), (5, 3, 9), (6, 1, 0), (7, 5, 0), (8, 5, 1)] rfl rfl rfl ?_ ?_⟩
               | exact trivial
               | (with_reducible rfl)
               | exact (rfl : (0 : Int) = ((0 : Nat) : Int))
               | exact w64_nat arith
               | refine bcase_T (by first | with_reducible rfl | decide) ?_
               | refine bcase_F (by first | with_reducible rfl | decide) ?_
               | refine bcase_dec (fun _ => ?_) (fun _ => ?_)
               | refine bcase_not ?_
               | refine bcase_intro (fun _ => ?_) (fun _ => ?_)
               | refine ⟨(by with_reducible rfl), ?_⟩
               | refine ⟨congrArg vi ?_, ?_⟩
               | refine ⟨congrArg vb ?_, ?_⟩
               | refine ⟨rfl, ?_⟩
               | refine ⟨(by kernel_rfl : drawOK _ = true), ?_⟩
               | refine Or.inl ?_
               | refine ⟨⟨congrArg (T.int _) ?_, rfl⟩, ?_⟩
               | refine ⟨⟨congrArg T.bool ?_, rfl⟩, ?_⟩
               | refine ⟨⟨rfl, Nat.le_of_ble_eq_true rfl⟩, ?_⟩
               | refine ⟨⟨rfl, rfl⟩, ?_⟩
               | refine ⟨⟨rfl, (by decide)⟩, ?_⟩
               | refine ⟨⟨rfl, ?_⟩, ?_⟩
               | refine ⟨Or.inr rfl, ?_⟩
               | refine ⟨Or.inl rfl, ?_⟩
               | refine ⟨⟨⟨rfl, rfl, rfl⟩, ?_⟩, ?_⟩
               | refine ⟨_, _, rfl, row_get _ _ arith, rfl, ?_⟩
               | refine ⟨Or.inr (by repeat (first | exact trivial | refine ⟨rfl, ?_⟩)), ?_⟩
               | refine ⟨(?_ : _ = ([] : List (List T))), ?_⟩
               | fail))
        all_goals first
          | rfl
          | (rw [List.length_map]; done)
          | exact testS_T' w d k hin hb hrd
          | exact testS_T w d k hin hb
          | exact testR_T w d k hin hb
          | exact testS_F w d k hb
          | exact testR_F w d k hb
          | skip
      | false =>
        all_goals repeat' (first
          | (with_reducible rfl)
          | (conv => whnf
             first
               | refine bcase_T (by rw [decide_eq_true_eq]; (try rw [List.length_map]); omega) ?_
               | refine ⟨i, _, rfl, row_get _ _ (by omega), rfl, ?_⟩
               | refine ⟨_, c_sServerKey w.Master i, ?_⟩
               | refine ⟨_, fn_args (c_sKeyedHash w.Seed [227, w.Round, (i : Int)] (by simp)) (by rfl), ?_⟩
               | refine ⟨_, c_sRandomSelection (khash w.Seed [227, w.Round, (i : Int)]) w.Rows hrn, ?_⟩
               | refine ⟨_, c_sAnswerAs w.Servers[i] (servKey w.Master i) k d (randSel (khash w.Seed [227, w.Round, (i : Int)]) w.Rows) hbig (by omega) (by omega), ?_⟩
               | refine ⟨_, c_sIsFalseAnswer (servKey w.Master i) d (testAns w d k i w.Servers[i]) hbig (by unfold testAns; omega) (by unfold testAns; omega), ?_⟩
               | refine bcase_F hok ?_
               | refine ⟨i + 1, ⟨arith, arith⟩, sub_at2 [(0, 2, 0), (1, 3, 0), (2, 3, 2), (3, 3, 3), (4, 3, 5), (5, 3, 9), (6, 1, 0), (7, 5, 0), (8, 5, 1)] rfl rfl rfl ?_ ?_⟩
               | exact trivial
               | (with_reducible rfl)
               | exact (rfl : (0 : Int) = ((0 : Nat) : Int))
               | exact w64_nat arith
               | refine bcase_T (by first | with_reducible rfl | decide) ?_
               | refine bcase_F (by first | with_reducible rfl | decide) ?_
               | refine bcase_dec (fun _ => ?_) (fun _ => ?_)
               | refine bcase_not ?_
               | refine bcase_intro (fun _ => ?_) (fun _ => ?_)
               | refine ⟨(by with_reducible rfl), ?_⟩
               | refine ⟨congrArg vi ?_, ?_⟩
               | refine ⟨congrArg vb ?_, ?_⟩
               | refine ⟨rfl, ?_⟩
               | refine ⟨(by kernel_rfl : drawOK _ = true), ?_⟩
               | refine Or.inl ?_
               | refine ⟨⟨congrArg (T.int _) ?_, rfl⟩, ?_⟩
               | refine ⟨⟨congrArg T.bool ?_, rfl⟩, ?_⟩
               | refine ⟨⟨rfl, Nat.le_of_ble_eq_true rfl⟩, ?_⟩
               | refine ⟨⟨rfl, rfl⟩, ?_⟩
               | refine ⟨⟨rfl, (by decide)⟩, ?_⟩
               | refine ⟨⟨rfl, ?_⟩, ?_⟩
               | refine ⟨Or.inr rfl, ?_⟩
               | refine ⟨Or.inl rfl, ?_⟩
               | refine ⟨⟨⟨rfl, rfl, rfl⟩, ?_⟩, ?_⟩
               | refine ⟨_, _, rfl, row_get _ _ arith, rfl, ?_⟩
               | refine ⟨Or.inr (by repeat (first | exact trivial | refine ⟨rfl, ?_⟩)), ?_⟩
               | refine ⟨(?_ : _ = ([] : List (List T))), ?_⟩
               | fail))
        all_goals first
          | rfl
          | (rw [List.length_map]; done)
          | exact testS_T' w d k hin hb hrd
          | exact testS_T w d k hin hb
          | exact testR_T w d k hin hb
          | exact testS_F w d k hb
          | exact testR_F w d k hb
          | skip
  all_goals repeat' (first
    | (with_reducible rfl)
    | (conv => whnf
       first
         | exact trivial
         | (with_reducible rfl)
         | exact (rfl : (0 : Int) = ((0 : Nat) : Int))
         | exact w64_nat arith
         | refine bcase_T (by first | with_reducible rfl | decide) ?_
         | refine bcase_F (by first | with_reducible rfl | decide) ?_
         | refine bcase_dec (fun _ => ?_) (fun _ => ?_)
         | refine bcase_not ?_
         | refine bcase_intro (fun _ => ?_) (fun _ => ?_)
         | refine ⟨(by with_reducible rfl), ?_⟩
         | refine ⟨congrArg vi ?_, ?_⟩
         | refine ⟨congrArg vb ?_, ?_⟩
         | refine ⟨rfl, ?_⟩
         | refine ⟨(by kernel_rfl : drawOK _ = true), ?_⟩
         | refine Or.inl ?_
         | refine ⟨⟨congrArg (T.int _) ?_, rfl⟩, ?_⟩
         | refine ⟨⟨congrArg T.bool ?_, rfl⟩, ?_⟩
         | refine ⟨⟨rfl, Nat.le_of_ble_eq_true rfl⟩, ?_⟩
         | refine ⟨⟨rfl, rfl⟩, ?_⟩
         | refine ⟨⟨rfl, (by decide)⟩, ?_⟩
         | refine ⟨⟨rfl, ?_⟩, ?_⟩
         | refine ⟨Or.inr rfl, ?_⟩
         | refine ⟨Or.inl rfl, ?_⟩
         | refine ⟨⟨⟨rfl, rfl, rfl⟩, ?_⟩, ?_⟩
         | refine ⟨_, _, rfl, row_get _ _ arith, rfl, ?_⟩
         | refine ⟨Or.inr (by repeat (first | exact trivial | refine ⟨rfl, ?_⟩)), ?_⟩
         | refine ⟨(?_ : _ = ([] : List (List T))), ?_⟩
         | fail))
  all_goals first
    | rfl
    | (rw [List.length_map]; done)
    | (unfold guiltyS; rfl)
    | (unfold guiltyR; rfl)
    | skip
end Go.Proofs.YtdbgmncapignoaaGreat
