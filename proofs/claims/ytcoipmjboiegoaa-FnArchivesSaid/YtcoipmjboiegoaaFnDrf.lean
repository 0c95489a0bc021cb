/-
  Contract: the statement about archives.
  Conditions: none.
-/
import Derived.Test.YtcoipmjboiegoaaFnDre
import Derived.Test.YtcoipmjboiegoaaFnDrp
namespace Go.Proofs.Ytcoipmjboiegoaa
set_option maxHeartbeats 4000000
set_option maxRecDepth 20000
open Go.Vm Go.RowKit
attribute [local irreducible] FnAt MutAt InAt JAt CurAt
theorem add_big {a : DArchive} {r : Int} {d : DDatabase} (h : bigR a.Rounds) (h2 : a.Rounds.length ≤ 9) (hd : bigB d.Rows) : bigR (addRound a r d).Rounds ∧ (addRound a r d).Rounds.length ≤ 10 := by
  unfold addRound
  split
  · have hl : (addRounds a r d).length ≤ 10 := by
      unfold addRounds withRound
      split <;> simp <;> omega
    refine ⟨⟨by show (addRounds a r d).length ≤ _; omega, fun x hx => ?_⟩, hl⟩
    rcases addRounds_mem hx with hx | rfl
    · exact h.2 x hx
    · exact hd
  · exact ⟨h, by omega⟩
attribute [local irreducible] daA daR daD addRound addOk archOk lastRound roundsSince archDb archHas archEq
theorem c_FnArchives (a0 : List UInt8) (_ : a0.length ≤ maxLen) : FnAt Try.prog 3 [.one (L eU a0)] [.one (.s (.bool true))] := by
  by_cases hb : a0.length ≤ 1048576
  case neg =>
    refine fn_of Try.func3 rfl (by kernel_rfl) rfl ?_
    all_goals repeat' (first
      | (with_reducible rfl)
      | (conv => whnf
         first
           | refine ⟨_, c_big a0, ?_⟩
           | refine bcase_T (by rw [decide_eq_true_eq]; omega) ?_
           | exact trivial
           | (with_reducible rfl)
           | exact (rfl : (0 : Int) = ((0 : Nat) : Int))
           | exact w64_nat arith
           | refine bcase_T (by first | with_reducible rfl | decide) ?_
           | refine bcase_F (by first | with_reducible rfl | decide) ?_
           | refine bcase_dec (fun _ => ?_) (fun _ => ?_)
           | refine bcase_not ?_
           | refine bcase_intro (fun _ => ?_) (fun _ => ?_)
           | refine ⟨(by with_reducible rfl), ?_⟩
           | refine ⟨congrArg vi ?_, ?_⟩
           | refine ⟨congrArg vb ?_, ?_⟩
           | refine ⟨rfl, ?_⟩
           | refine ⟨(by kernel_rfl : drawOK _ = true), ?_⟩
           | refine Or.inl ?_
           | refine ⟨⟨congrArg (T.int _) ?_, rfl⟩, ?_⟩
           | refine ⟨⟨congrArg T.bool ?_, rfl⟩, ?_⟩
           | refine ⟨⟨rfl, Nat.le_of_ble_eq_true rfl⟩, ?_⟩
           | refine ⟨⟨rfl, rfl⟩, ?_⟩
           | refine ⟨⟨rfl, (by decide)⟩, ?_⟩
           | refine ⟨⟨rfl, ?_⟩, ?_⟩
           | refine ⟨Or.inr rfl, ?_⟩
           | refine ⟨Or.inl rfl, ?_⟩
           | refine ⟨⟨⟨rfl, rfl, rfl⟩, ?_⟩, ?_⟩
           | refine ⟨_, _, rfl, row_get _ _ arith, rfl, ?_⟩
           | refine ⟨Or.inr (by repeat (first | exact trivial | refine ⟨rfl, ?_⟩)), ?_⟩
           | refine ⟨(?_ : _ = ([] : List (List T))), ?_⟩
           | fail))
  have d0 := c_DrawAddRound a0 hb
  have ha : bigR (daA a0).Rounds ∧ (daA a0).Rounds.length ≤ 9 := by have := aaV_big (nwC_ok hb); unfold daA; exact this
  have hdb := daD_big a0
  generalize daA a0 = a at *
  generalize daR a0 = r at *
  generalize daD a0 = d at *
  have i1 := c_AddRound a r d ha.1 (by omega) hdb
  have i2 := c_sAddRound a r d ha.1 (by omega) hdb
  cases ok : addOk a r d with
  | false =>
    have hx : addRound a r d = a := by unfold addRound; rw [if_neg (by rw [ok]; simp)]
    rw [ok, hx] at i1 i2
    have i3 := c_EqualArchives a a ha.1
    rw [archEq_refl] at i3
    refine fn_of Try.func3 rfl (by kernel_rfl) rfl ?_
    all_goals repeat' (first
      | (with_reducible rfl)
      | (conv => whnf
         first
           | refine ⟨_, c_big a0, ?_⟩
           | refine bcase_F (by rw [decide_eq_false_iff_not]; omega) ?_
           | refine bcase_F (by first | rfl | exact bne_eq_false_iff_eq.2 rfl) ?_
           | refine ⟨_, d0, ?_⟩
           | refine ⟨_, i1, ?_⟩
           | refine ⟨_, i2, ?_⟩
           | refine ⟨_, i3, ?_⟩
           | exact trivial
           | (with_reducible rfl)
           | exact (rfl : (0 : Int) = ((0 : Nat) : Int))
           | exact w64_nat arith
           | refine bcase_T (by first | with_reducible rfl | decide) ?_
           | refine bcase_F (by first | with_reducible rfl | decide) ?_
           | refine bcase_dec (fun _ => ?_) (fun _ => ?_)
           | refine bcase_not ?_
           | refine bcase_intro (fun _ => ?_) (fun _ => ?_)
           | refine ⟨(by with_reducible rfl), ?_⟩
           | refine ⟨congrArg vi ?_, ?_⟩
           | refine ⟨congrArg vb ?_, ?_⟩
           | refine ⟨rfl, ?_⟩
           | refine ⟨(by kernel_rfl : drawOK _ = true), ?_⟩
           | refine Or.inl ?_
           | refine ⟨⟨congrArg (T.int _) ?_, rfl⟩, ?_⟩
           | refine ⟨⟨congrArg T.bool ?_, rfl⟩, ?_⟩
           | refine ⟨⟨rfl, Nat.le_of_ble_eq_true rfl⟩, ?_⟩
           | refine ⟨⟨rfl, rfl⟩, ?_⟩
           | refine ⟨⟨rfl, (by decide)⟩, ?_⟩
           | refine ⟨⟨rfl, ?_⟩, ?_⟩
           | refine ⟨Or.inr rfl, ?_⟩
           | refine ⟨Or.inl rfl, ?_⟩
           | refine ⟨⟨⟨rfl, rfl, rfl⟩, ?_⟩, ?_⟩
           | refine ⟨_, _, rfl, row_get _ _ arith, rfl, ?_⟩
           | refine ⟨Or.inr (by repeat (first | exact trivial | refine ⟨rfl, ?_⟩)), ?_⟩
           | refine ⟨(?_ : _ = ([] : List (List T))), ?_⟩
           | fail))
    all_goals (try rfl)
  | true =>
    have hbx := add_big (r := r) ha.1 ha.2 hdb
    have hr3 := add_last ok
    have hr4 := add_ok ok
    have hr5 := add_len ok
    have hr6 := add_since0 ok
    have hr7 := add_since ok
    have hr8 := add_has ok
    have hr9 := add_db ok
    have hr2 := add_again (e := d) ok
    rw [ok] at i1 i2
    generalize addRound a r d = x at *
    have hxx : addRound x r d = x := by unfold addRound; rw [if_neg (by rw [hr2]; simp)]
    have e1 := c_ArchivedDatabase x r hbx.1
    rw [hr8, hr9] at e1
    have e2 := c_AddRound x r d hbx.1 (by omega) hdb
    rw [hxx, hr2] at e2
    have e3 := c_RoundsSince x 0 (by omega)
    have e4 := c_RoundsSince x r (by omega)
    have e5 := c_EqualDatabases d d hdb
    have e6 := c_LastRound x (by omega)
    rw [hr3] at e6
    have e7 := c_IsValidArchive x hbx.1
    rw [hr4] at e7
    have hm1 : (x.Rounds.map DArchivedRound.e).length = x.Rounds.length := List.length_map _
    have hm2 : (a.Rounds.map DArchivedRound.e).length = a.Rounds.length := List.length_map _
    have hm3 : ((roundsSince x.Rounds 0).map eI).length = (roundsSince x.Rounds 0).length := List.length_map _
    have hm4 : ((roundsSince x.Rounds r).map eI).length = (roundsSince x.Rounds r).length := List.length_map _
    refine fn_of Try.func3 rfl (by kernel_rfl) rfl ?_
    all_goals repeat' (first
      | (with_reducible rfl)
      | (conv => whnf
         first
           | refine ⟨_, c_big a0, ?_⟩
           | refine bcase_F (by rw [decide_eq_false_iff_not]; omega) ?_
           | refine bcase_F (by first | rfl | exact bne_eq_false_iff_eq.2 rfl) ?_
           | refine ⟨_, d0, ?_⟩
           | refine ⟨_, i1, ?_⟩
           | refine ⟨_, i2, ?_⟩
           | refine ⟨_, e1, ?_⟩
           | refine ⟨_, e2, ?_⟩
           | refine ⟨_, e3, ?_⟩
           | refine ⟨_, e4, ?_⟩
           | refine ⟨_, e5, ?_⟩
           | refine ⟨_, e6, ?_⟩
           | refine ⟨_, e7, ?_⟩
           | refine ⟨_, c_sMin _ _, ?_⟩
           | exact trivial
           | (with_reducible rfl)
           | exact (rfl : (0 : Int) = ((0 : Nat) : Int))
           | exact w64_nat arith
           | refine bcase_T (by first | with_reducible rfl | decide) ?_
           | refine bcase_F (by first | with_reducible rfl | decide) ?_
           | refine bcase_dec (fun _ => ?_) (fun _ => ?_)
           | refine bcase_not ?_
           | refine bcase_intro (fun _ => ?_) (fun _ => ?_)
           | refine ⟨(by with_reducible rfl), ?_⟩
           | refine ⟨congrArg vi ?_, ?_⟩
           | refine ⟨congrArg vb ?_, ?_⟩
           | refine ⟨rfl, ?_⟩
           | refine ⟨(by kernel_rfl : drawOK _ = true), ?_⟩
           | refine Or.inl ?_
           | refine ⟨⟨congrArg (T.int _) ?_, rfl⟩, ?_⟩
           | refine ⟨⟨congrArg T.bool ?_, rfl⟩, ?_⟩
           | refine ⟨⟨rfl, Nat.le_of_ble_eq_true rfl⟩, ?_⟩
           | refine ⟨⟨rfl, rfl⟩, ?_⟩
           | refine ⟨⟨rfl, (by decide)⟩, ?_⟩
           | refine ⟨⟨rfl, ?_⟩, ?_⟩
           | refine ⟨Or.inr rfl, ?_⟩
           | refine ⟨Or.inl rfl, ?_⟩
           | refine ⟨⟨⟨rfl, rfl, rfl⟩, ?_⟩, ?_⟩
           | refine ⟨_, _, rfl, row_get _ _ arith, rfl, ?_⟩
           | refine ⟨Or.inr (by repeat (first | exact trivial | refine ⟨rfl, ?_⟩)), ?_⟩
           | refine ⟨(?_ : _ = ([] : List (List T))), ?_⟩
           | fail))
    all_goals first
      | rfl
      | (rw [hm4, hr7]; rfl)
      | (exfalso; simp only [hm1, hm2, hm3, hm4, hr6, hr7, beq_iff_eq, bne_iff_ne, decide_eq_true_eq, decide_eq_false_iff_not, beq_eq_false_iff_ne] at *; omega)
      | (exfalso; simp_all; done)
      | (exfalso; rename_i hz; apply hz; show ((x.Rounds.map DArchivedRound.e).length : Int) = (if (IntKind.i64.wrap ((((a.Rounds.map DArchivedRound.e).length : Nat) : Int) + 1)) < 8 then IntKind.i64.wrap ((((a.Rounds.map DArchivedRound.e).length : Nat) : Int) + 1) else 8); rw [hm1, hm2, w64_ok (by omega) (by omega)]; exact hr5)
      | skip
