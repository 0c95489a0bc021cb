/-
  Contract: the round to be added that a code draws.
  Conditions: none.
-/
import Derived.Test.YtcoipmjboiegoaaFnDrd
namespace Go.Proofs.Ytcoipmjboiegoaa
set_option maxHeartbeats 4000000
set_option maxRecDepth 20000
open Go.Vm Go.RowKit
attribute [local irreducible] FnAt MutAt InAt JAt CurAt
theorem c_big (b : List UInt8) : FnAt Try.prog 7 [.one (L eU b)] [.one (.s (.bool (decide (1048576 < (b.length : Int)))))] := by
  have hm : (b.map eU).length = b.length := List.length_map eU
  refine fn_of Try.func7 rfl (by kernel_rfl) rfl ?_
  all_goals repeat' (first
    | (with_reducible rfl)
    | (conv => whnf
       first
         | exact trivial
         | (with_reducible rfl)
         | exact (rfl : (0 : Int) = ((0 : Nat) : Int))
         | exact w64_nat arith
         | refine bcase_T (by first | with_reducible rfl | decide) ?_
         | refine bcase_F (by first | with_reducible rfl | decide) ?_
         | refine bcase_dec (fun _ => ?_) (fun _ => ?_)
         | refine bcase_not ?_
         | refine bcase_intro (fun _ => ?_) (fun _ => ?_)
         | refine ⟨(by with_reducible rfl), ?_⟩
         | refine ⟨congrArg vi ?_, ?_⟩
         | refine ⟨congrArg vb ?_, ?_⟩
         | refine ⟨rfl, ?_⟩
         | refine ⟨(by kernel_rfl : drawOK _ = true), ?_⟩
         | refine Or.inl ?_
         | refine ⟨⟨congrArg (T.int _) ?_, rfl⟩, ?_⟩
         | refine ⟨⟨congrArg T.bool ?_, rfl⟩, ?_⟩
         | refine ⟨⟨rfl, Nat.le_of_ble_eq_true rfl⟩, ?_⟩
         | refine ⟨⟨rfl, rfl⟩, ?_⟩
         | refine ⟨⟨rfl, (by decide)⟩, ?_⟩
         | refine ⟨⟨rfl, ?_⟩, ?_⟩
         | refine ⟨Or.inr rfl, ?_⟩
         | refine ⟨Or.inl rfl, ?_⟩
         | refine ⟨⟨⟨rfl, rfl, rfl⟩, ?_⟩, ?_⟩
         | refine ⟨_, _, rfl, row_get _ _ arith, rfl, ?_⟩
         | refine ⟨Or.inr (by repeat (first | exact trivial | refine ⟨rfl, ?_⟩)), ?_⟩
         | refine ⟨(?_ : _ = ([] : List (List T))), ?_⟩
         | fail))
  all_goals (rw [hm])
theorem c_sMin (a b : Int) : FnAt Try.prog 17 [.one (I a), .one (I b)] [.one (.s (I (if b < a then b else a)))] := by
  refine fn_of Try.func17 rfl (by kernel_rfl) rfl ?_
  all_goals repeat' (first
    | (with_reducible rfl)
    | (conv => whnf
       first
         | exact trivial
         | (with_reducible rfl)
         | exact (rfl : (0 : Int) = ((0 : Nat) : Int))
         | exact w64_nat arith
         | refine bcase_T (by first | with_reducible rfl | decide) ?_
         | refine bcase_F (by first | with_reducible rfl | decide) ?_
         | refine bcase_dec (fun _ => ?_) (fun _ => ?_)
         | refine bcase_not ?_
         | refine bcase_intro (fun _ => ?_) (fun _ => ?_)
         | refine ⟨(by with_reducible rfl), ?_⟩
         | refine ⟨congrArg vi ?_, ?_⟩
         | refine ⟨congrArg vb ?_, ?_⟩
         | refine ⟨rfl, ?_⟩
         | refine ⟨(by kernel_rfl : drawOK _ = true), ?_⟩
         | refine Or.inl ?_
         | refine ⟨⟨congrArg (T.int _) ?_, rfl⟩, ?_⟩
         | refine ⟨⟨congrArg T.bool ?_, rfl⟩, ?_⟩
         | refine ⟨⟨rfl, Nat.le_of_ble_eq_true rfl⟩, ?_⟩
         | refine ⟨⟨rfl, rfl⟩, ?_⟩
         | refine ⟨⟨rfl, (by decide)⟩, ?_⟩
         | refine ⟨⟨rfl, ?_⟩, ?_⟩
         | refine ⟨Or.inr rfl, ?_⟩
         | refine ⟨Or.inl rfl, ?_⟩
         | refine ⟨⟨⟨rfl, rfl, rfl⟩, ?_⟩, ?_⟩
         | refine ⟨_, _, rfl, row_get _ _ arith, rfl, ?_⟩
         | refine ⟨Or.inr (by repeat (first | exact trivial | refine ⟨rfl, ?_⟩)), ?_⟩
         | refine ⟨(?_ : _ = ([] : List (List T))), ?_⟩
         | fail))
  all_goals (split <;> omega)
theorem c_sMax (a b : Int) : FnAt Try.prog 57 [.one (I a), .one (I b)] [.one (.s (I (if a < b then b else a)))] := by
  refine fn_of Try.func57 rfl (by kernel_rfl) rfl ?_
  all_goals repeat' (first
    | (with_reducible rfl)
    | (conv => whnf
       first
         | exact trivial
         | (with_reducible rfl)
         | exact (rfl : (0 : Int) = ((0 : Nat) : Int))
         | exact w64_nat arith
         | refine bcase_T (by first | with_reducible rfl | decide) ?_
         | refine bcase_F (by first | with_reducible rfl | decide) ?_
         | refine bcase_dec (fun _ => ?_) (fun _ => ?_)
         | refine bcase_not ?_
         | refine bcase_intro (fun _ => ?_) (fun _ => ?_)
         | refine ⟨(by with_reducible rfl), ?_⟩
         | refine ⟨congrArg vi ?_, ?_⟩
         | refine ⟨congrArg vb ?_, ?_⟩
         | refine ⟨rfl, ?_⟩
         | refine ⟨(by kernel_rfl : drawOK _ = true), ?_⟩
         | refine Or.inl ?_
         | refine ⟨⟨congrArg (T.int _) ?_, rfl⟩, ?_⟩
         | refine ⟨⟨congrArg T.bool ?_, rfl⟩, ?_⟩
         | refine ⟨⟨rfl, Nat.le_of_ble_eq_true rfl⟩, ?_⟩
         | refine ⟨⟨rfl, rfl⟩, ?_⟩
         | refine ⟨⟨rfl, (by decide)⟩, ?_⟩
         | refine ⟨⟨rfl, ?_⟩, ?_⟩
         | refine ⟨Or.inr rfl, ?_⟩
         | refine ⟨Or.inl rfl, ?_⟩
         | refine ⟨⟨⟨rfl, rfl, rfl⟩, ?_⟩, ?_⟩
         | refine ⟨_, _, rfl, row_get _ _ arith, rfl, ?_⟩
         | refine ⟨Or.inr (by repeat (first | exact trivial | refine ⟨rfl, ?_⟩)), ?_⟩
         | refine ⟨(?_ : _ = ([] : List (List T))), ?_⟩
         | fail))
  all_goals (split <;> omega)
def daA (b : List UInt8) : DArchive := aaV (nwC b)
def daC1 (b : List UInt8) : Cu := aaN (nwC b)
def daL (b : List UInt8) : List Int := [lastRound (daA b), IntKind.i64.wrap (lastRound (daA b) + 1), IntKind.i64.wrap (lastRound (daA b) + 3), -1, 100000, 100001]
def daR (b : List UInt8) : Int := (daL b)[(beV (daC1 b) 6).toNat]?.getD 0
def daC2 (b : List UInt8) : Cu := beN (daC1 b) 6
def daC3 (b : List UInt8) : Cu := beN (daC2 b) 5
def mx9 (n : Int) : Int := if 0 < (if n < 9 then n else 9) then (if n < 9 then n else 9) else 0
theorem mx9_range (n : Int) : 0 ≤ mx9 n ∧ mx9 n ≤ 9 := by unfold mx9; split <;> split at * <;> omega
def daD (b : List UInt8) : DDatabase := if beV (daC2 b) 5 = 0 then anV (daC3 b) else ⟨dbR (daC3 b) (mx9 (daA b).Rows).toNat⟩
theorem nwC_ok {b : List UInt8} (h : b.length ≤ 1048576) : (nwC b).ok := ⟨h, Nat.zero_le _⟩
theorem daC1_ok {b : List UInt8} (h : b.length ≤ 1048576) : (daC1 b).ok := aaN_ok (nwC_ok h)
theorem daC3_ok {b : List UInt8} (h : b.length ≤ 1048576) : (daC3 b).ok := beN_ok (beN_ok (daC1_ok h))
theorem daD_big (b : List UInt8) : bigB (daD b).Rows := by
  unfold daD
  have := mx9_range (daA b).Rows
  split
  · exact anV_big _
  · exact dbR_big _ _ (by omega)
attribute [local irreducible] nwC aaV aaN
theorem c_DrawAddRound (b : List UInt8) (h : b.length ≤ 1048576) : FnAt Try.prog 8 [.one (L eU b)] [.agg (DArchive.r (daA b)), .one (.s (I (daR b))), .agg (DDatabase.r (daD b))] := by
  have ha := aaV_big (nwC_ok h)
  have hlr := c_sLastRound (daA b) (by show (aaV (nwC b)).Rounds.length ≤ _; omega)
  have hmx := mx9_range (daA b).Rows
  by_cases n1 : beV (daC2 b) 5 = 0
  · have e2 : daD b = anV (daC3 b) := if_pos n1
    rw [e2]
    refine fn_of Try.func8 rfl (by kernel_rfl) rfl ?_
    all_goals repeat' (first
      | (with_reducible rfl)
      | (conv => whnf
         first
           | (refine Or.inr ⟨rfl, Or.inl ?_⟩; (conv => whnf); refine inAt_new (c_l1New b h) ?_)
           | (refine Or.inr ⟨rfl, Or.inl ?_⟩; (conv => whnf); refine inAt_cur (c_l28Any (nwC b) (nwC_ok h)) (by rfl) (by rfl) (by rfl) ?_)
           | refine Or.inr ⟨(by kernel_rfl), 2, ⟨_, rfl⟩, ?_⟩
           | (refine Or.inl ?_; (conv => whnf); first | refine ⟨_, _, c_l1Int (daC1 b) (daL b) (daC1_ok h) (by show 0 < 6; decide) (by show 6 ≤ 1099511627776; decide), ?_⟩ | refine ⟨_, _, c_l8Any (daC3 b) (daC3_ok h), ?_⟩)
           | (refine Or.inr (?_ : hidO _ _ _ _ _ _ _); (conv => whnf); refine Or.inl ?_; (conv => whnf); refine ⟨_, hlr, ?_⟩)
           | (refine Or.inr ⟨rfl, Or.inl ?_⟩; (conv => whnf); refine inAt_cur (c_l1Once (daC2 b) 5 (beN_ok (daC1_ok h))) (by rfl) (by rfl) (by rfl) ?_)
           | refine bcase_T (by rw [n1]; rfl) ?_
           | exact trivial
           | (with_reducible rfl)
           | exact (rfl : (0 : Int) = ((0 : Nat) : Int))
           | exact w64_nat arith
           | refine bcase_T (by first | with_reducible rfl | decide) ?_
           | refine bcase_F (by first | with_reducible rfl | decide) ?_
           | refine bcase_dec (fun _ => ?_) (fun _ => ?_)
           | refine bcase_not ?_
           | refine bcase_intro (fun _ => ?_) (fun _ => ?_)
           | refine ⟨(by with_reducible rfl), ?_⟩
           | refine ⟨congrArg vi ?_, ?_⟩
           | refine ⟨congrArg vb ?_, ?_⟩
           | refine ⟨rfl, ?_⟩
           | refine ⟨(by kernel_rfl : drawOK _ = true), ?_⟩
           | refine Or.inl ?_
           | refine ⟨⟨congrArg (T.int _) ?_, rfl⟩, ?_⟩
           | refine ⟨⟨congrArg T.bool ?_, rfl⟩, ?_⟩
           | refine ⟨⟨rfl, Nat.le_of_ble_eq_true rfl⟩, ?_⟩
           | refine ⟨⟨rfl, rfl⟩, ?_⟩
           | refine ⟨⟨rfl, (by decide)⟩, ?_⟩
           | refine ⟨⟨rfl, ?_⟩, ?_⟩
           | refine ⟨Or.inr rfl, ?_⟩
           | refine ⟨Or.inl rfl, ?_⟩
           | refine ⟨⟨⟨rfl, rfl, rfl⟩, ?_⟩, ?_⟩
           | refine ⟨_, _, rfl, row_get _ _ arith, rfl, ?_⟩
           | refine ⟨Or.inr (by repeat (first | exact trivial | refine ⟨rfl, ?_⟩)), ?_⟩
           | refine ⟨(?_ : _ = ([] : List (List T))), ?_⟩
           | fail))
    all_goals (try rfl)
  · have e2 : daD b = ⟨dbR (daC3 b) (mx9 (daA b).Rows).toNat⟩ := if_neg n1
    rw [e2]
    refine fn_of Try.func8 rfl (by kernel_rfl) rfl ?_
    all_goals repeat' (first
      | (with_reducible rfl)
      | (conv => whnf
         first
           | (refine Or.inr ⟨rfl, Or.inl ?_⟩; (conv => whnf); refine inAt_new (c_l1New b h) ?_)
           | (refine Or.inr ⟨rfl, Or.inl ?_⟩; (conv => whnf); refine inAt_cur (c_l28Any (nwC b) (nwC_ok h)) (by rfl) (by rfl) (by rfl) ?_)
           | refine Or.inr ⟨(by kernel_rfl), 2, ⟨_, rfl⟩, ?_⟩
           | (refine Or.inl ?_; (conv => whnf); first | refine ⟨_, _, c_l1Int (daC1 b) (daL b) (daC1_ok h) (by show 0 < 6; decide) (by show 6 ≤ 1099511627776; decide), ?_⟩ | refine ⟨_, _, c_l8DatabaseI (daC3 b) (mx9 (daA b).Rows) (mx9 (daA b).Rows).toNat (daC3_ok h) (by omega) (by omega), ?_⟩)
           | (refine Or.inr (?_ : hidO _ _ _ _ _ _ _); (conv => whnf); refine Or.inl ?_; (conv => whnf); first | refine ⟨_, hlr, ?_⟩ | refine ⟨_, c_sMin _ _, ?_⟩ | refine ⟨_, c_sMax _ _, ?_⟩)
           | (refine Or.inr ⟨rfl, Or.inl ?_⟩; (conv => whnf); refine inAt_cur (c_l1Once (daC2 b) 5 (beN_ok (daC1_ok h))) (by rfl) (by rfl) (by rfl) ?_)
           | refine bcase_F (beq_eq_false_iff_ne.2 n1) ?_
           | exact trivial
           | (with_reducible rfl)
           | exact (rfl : (0 : Int) = ((0 : Nat) : Int))
           | exact w64_nat arith
           | refine bcase_T (by first | with_reducible rfl | decide) ?_
           | refine bcase_F (by first | with_reducible rfl | decide) ?_
           | refine bcase_dec (fun _ => ?_) (fun _ => ?_)
           | refine bcase_not ?_
           | refine bcase_intro (fun _ => ?_) (fun _ => ?_)
           | refine ⟨(by with_reducible rfl), ?_⟩
           | refine ⟨congrArg vi ?_, ?_⟩
           | refine ⟨congrArg vb ?_, ?_⟩
           | refine ⟨rfl, ?_⟩
           | refine ⟨(by kernel_rfl : drawOK _ = true), ?_⟩
           | refine Or.inl ?_
           | refine ⟨⟨congrArg (T.int _) ?_, rfl⟩, ?_⟩
           | refine ⟨⟨congrArg T.bool ?_, rfl⟩, ?_⟩
           | refine ⟨⟨rfl, Nat.le_of_ble_eq_true rfl⟩, ?_⟩
           | refine ⟨⟨rfl, rfl⟩, ?_⟩
           | refine ⟨⟨rfl, (by decide)⟩, ?_⟩
           | refine ⟨⟨rfl, ?_⟩, ?_⟩
           | refine ⟨Or.inr rfl, ?_⟩
           | refine ⟨Or.inl rfl, ?_⟩
           | refine ⟨⟨⟨rfl, rfl, rfl⟩, ?_⟩, ?_⟩
           | refine ⟨_, _, rfl, row_get _ _ arith, rfl, ?_⟩
           | refine ⟨Or.inr (by repeat (first | exact trivial | refine ⟨rfl, ?_⟩)), ?_⟩
           | refine ⟨(?_ : _ = ([] : List (List T))), ?_⟩
           | fail))
    all_goals (try rfl)
