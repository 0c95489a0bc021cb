/-
  Contracts: archives of any shape, rounds to add to them, as the cursor draws them.
  Conditions: none.
-/
import Derived.Test.YtcoipmjboiegoaaFnDrb
namespace Go.Proofs.Ytcoipmjboiegoaa
set_option maxHeartbeats 4000000
set_option maxRecDepth 20000
open Go.Vm Go.RowKit
attribute [local irreducible] FnAt MutAt InAt JAt CurAt
theorem arV_ok {c : Cu} (h : c.ok) : ArOk (arK c) (arV c) := arI_ok (ar0_ok h) _
def aaC2 (c : Cu) : Cu := beN (arV c).c 10
def aaL (c : Cu) : List Int := [0, IntKind.i64.wrap ((arV c).a.Rows + 1), 65]
def aaM : List Int := [-1, 0, 100000, 100001]
def aaN (c : Cu) : Cu := if beV (arV c).c 10 = 0 then beN (aaC2 c) 3 else if beV (arV c).c 10 = 1 then anN (beN (aaC2 c) 4) else aaC2 c
def aaV (c : Cu) : DArchive := if beV (arV c).c 10 = 0 then ⟨(aaL c)[(beV (aaC2 c) 3).toNat]?.getD 0, (arV c).a.Rounds⟩
  else if beV (arV c).c 10 = 1 then ⟨(arV c).a.Rows, (arV c).a.Rounds ++ [⟨aaM[(beV (aaC2 c) 4).toNat]?.getD 0, anV (beN (aaC2 c) 4)⟩]⟩ else (arV c).a
theorem aaC2_ok {c : Cu} (h : c.ok) : (aaC2 c).ok := beN_ok (arV_ok h).ok
theorem aaN_ok {c : Cu} (h : c.ok) : (aaN c).ok := by
  unfold aaN
  split
  · exact beN_ok (aaC2_ok h)
  · split
    · exact anN_ok (beN_ok (aaC2_ok h))
    · exact aaC2_ok h
theorem aaV_big {c : Cu} (h : c.ok) : bigR (aaV c).Rounds ∧ (aaV c).Rounds.length ≤ 9 := by
  obtain ⟨h1, h2, h3, h4, h5⟩ := arV_ok h
  unfold aaV
  split
  · exact ⟨h3, by show (arV c).a.Rounds.length ≤ 9; omega⟩
  · split
    · refine ⟨⟨by simp; omega, fun x hx => ?_⟩, by simp; omega⟩
      rcases List.mem_append.1 hx with hx | hx
      · exact h3.2 x hx
      · rw [List.mem_singleton.1 hx]
        exact anV_big _
    · exact ⟨h3, by omega⟩
theorem c_l28Any (c : Cu) (h : c.ok) : CurAt Try.prog 51 (Cu.e c) (Cu.e (aaN c)) [] [.agg (DArchive.r (aaV c))] := by
  have hk := arV_ok h
  have hlen := hk.len
  by_cases n1 : beV (arV c).c 10 = 0
  · have e1 : aaN c = beN (aaC2 c) 3 := if_pos n1
    have e2 : aaV c = ⟨(aaL c)[(beV (aaC2 c) 3).toNat]?.getD 0, (arV c).a.Rounds⟩ := if_pos n1
    rw [e1, e2]
    refine cur_of Try.func51 rfl (by kernel_rfl) rfl ?_
    all_goals repeat' (first
      | (with_reducible rfl)
      | (conv => whnf
         first
           | (refine Or.inr ⟨rfl, Or.inl ?_⟩; (conv => whnf); refine inAt_cur (c_l28Archive c h) (by rfl) (by rfl) (by rfl) ?_)
           | (refine Or.inr ⟨rfl, Or.inl ?_⟩; (conv => whnf); refine inAt_cur (c_l1Below (arV c).c 10 hk.ok) (by rfl) (by rfl) (by rfl) ?_)
           | (refine Or.inr ⟨rfl, Or.inl ?_⟩; (conv => whnf); refine inAt_cur (c_l1Int (aaC2 c) (aaL c) (aaC2_ok h) (by show 0 < 3; decide) (by show 3 ≤ 1099511627776; decide)) (by rfl) (by rfl) (by rfl) ?_)
           | refine bcase_T (by rw [n1]; rfl) ?_
           | exact trivial
           | (with_reducible rfl)
           | exact (rfl : (0 : Int) = ((0 : Nat) : Int))
           | exact w64_nat arith
           | refine bcase_T (by first | with_reducible rfl | decide) ?_
           | refine bcase_F (by first | with_reducible rfl | decide) ?_
           | refine bcase_dec (fun _ => ?_) (fun _ => ?_)
           | refine bcase_not ?_
           | refine bcase_intro (fun _ => ?_) (fun _ => ?_)
           | refine ⟨(by with_reducible rfl), ?_⟩
           | refine ⟨congrArg vi ?_, ?_⟩
           | refine ⟨congrArg vb ?_, ?_⟩
           | refine ⟨rfl, ?_⟩
           | refine ⟨(by kernel_rfl : drawOK _ = true), ?_⟩
           | refine Or.inl ?_
           | refine ⟨⟨congrArg (T.int _) ?_, rfl⟩, ?_⟩
           | refine ⟨⟨congrArg T.bool ?_, rfl⟩, ?_⟩
           | refine ⟨⟨rfl, Nat.le_of_ble_eq_true rfl⟩, ?_⟩
           | refine ⟨⟨rfl, rfl⟩, ?_⟩
           | refine ⟨⟨rfl, (by decide)⟩, ?_⟩
           | refine ⟨⟨rfl, ?_⟩, ?_⟩
           | refine ⟨Or.inr rfl, ?_⟩
           | refine ⟨Or.inl rfl, ?_⟩
           | refine ⟨⟨⟨rfl, rfl, rfl⟩, ?_⟩, ?_⟩
           | refine ⟨_, _, rfl, row_get _ _ arith, rfl, ?_⟩
           | refine ⟨Or.inr (by repeat (first | exact trivial | refine ⟨rfl, ?_⟩)), ?_⟩
           | refine ⟨(?_ : _ = ([] : List (List T))), ?_⟩
           | fail))
    all_goals rfl
  · by_cases n2 : beV (arV c).c 10 = 1
    · have e1 : aaN c = anN (beN (aaC2 c) 4) := by unfold aaN; rw [if_neg n1, if_pos n2]
      have e2 : aaV c = ⟨(arV c).a.Rows, (arV c).a.Rounds ++ [⟨aaM[(beV (aaC2 c) 4).toNat]?.getD 0, anV (beN (aaC2 c) 4)⟩]⟩ := by unfold aaV; rw [if_neg n1, if_pos n2]
      rw [e1, e2]
      refine cur_of Try.func51 rfl (by kernel_rfl) rfl ?_
      all_goals repeat' (first
        | (with_reducible rfl)
        | (conv => whnf
           first
             | (refine Or.inr ⟨rfl, Or.inl ?_⟩; (conv => whnf); refine inAt_cur (c_l28Archive c h) (by rfl) (by rfl) (by rfl) ?_)
             | (refine Or.inr ⟨rfl, Or.inl ?_⟩; (conv => whnf); refine inAt_cur (c_l1Below (arV c).c 10 hk.ok) (by rfl) (by rfl) (by rfl) ?_)
             | refine bcase_F (by rw [n2]; rfl) ?_
             | refine bcase_T (by rw [n2]; rfl) ?_
             | refine Or.inr ⟨(by kernel_rfl), 0, ⟨_, rfl⟩, ?_⟩
             | (refine Or.inl ?_; (conv => whnf); first | refine ⟨_, _, c_l1Int (aaC2 c) aaM (aaC2_ok h) (by decide) (by decide), ?_⟩ | refine ⟨_, _, c_l8Any (beN (aaC2 c) 4) (beN_ok (aaC2_ok h)), ?_⟩)
             | (have h8 := hk.len; refine ⟨⟨bnd, bnd⟩, ?_⟩)
             | exact trivial
             | (with_reducible rfl)
             | exact (rfl : (0 : Int) = ((0 : Nat) : Int))
             | exact w64_nat arith
             | refine bcase_T (by first | with_reducible rfl | decide) ?_
             | refine bcase_F (by first | with_reducible rfl | decide) ?_
             | refine bcase_dec (fun _ => ?_) (fun _ => ?_)
             | refine bcase_not ?_
             | refine bcase_intro (fun _ => ?_) (fun _ => ?_)
             | refine ⟨(by with_reducible rfl), ?_⟩
             | refine ⟨congrArg vi ?_, ?_⟩
             | refine ⟨congrArg vb ?_, ?_⟩
             | refine ⟨rfl, ?_⟩
             | refine ⟨(by kernel_rfl : drawOK _ = true), ?_⟩
             | refine Or.inl ?_
             | refine ⟨⟨congrArg (T.int _) ?_, rfl⟩, ?_⟩
             | refine ⟨⟨congrArg T.bool ?_, rfl⟩, ?_⟩
             | refine ⟨⟨rfl, Nat.le_of_ble_eq_true rfl⟩, ?_⟩
             | refine ⟨⟨rfl, rfl⟩, ?_⟩
             | refine ⟨⟨rfl, (by decide)⟩, ?_⟩
             | refine ⟨⟨rfl, ?_⟩, ?_⟩
             | refine ⟨Or.inr rfl, ?_⟩
             | refine ⟨Or.inl rfl, ?_⟩
             | refine ⟨⟨⟨rfl, rfl, rfl⟩, ?_⟩, ?_⟩
             | refine ⟨_, _, rfl, row_get _ _ arith, rfl, ?_⟩
             | refine ⟨Or.inr (by repeat (first | exact trivial | refine ⟨rfl, ?_⟩)), ?_⟩
             | refine ⟨(?_ : _ = ([] : List (List T))), ?_⟩
             | fail))
      all_goals first | rfl | (rw [List.map_append]; rfl)
    · have e1 : aaN c = aaC2 c := by unfold aaN; rw [if_neg n1, if_neg n2]
      have e2 : aaV c = (arV c).a := by unfold aaV; rw [if_neg n1, if_neg n2]
      rw [e1, e2]
      refine cur_of Try.func51 rfl (by kernel_rfl) rfl ?_
      all_goals repeat' (first
        | (with_reducible rfl)
        | (conv => whnf
           first
             | (refine Or.inr ⟨rfl, Or.inl ?_⟩; (conv => whnf); refine inAt_cur (c_l28Archive c h) (by rfl) (by rfl) (by rfl) ?_)
             | (refine Or.inr ⟨rfl, Or.inl ?_⟩; (conv => whnf); refine inAt_cur (c_l1Below (arV c).c 10 hk.ok) (by rfl) (by rfl) (by rfl) ?_)
             | refine bcase_F (by first | exact beq_eq_false_iff_ne.2 n1 | exact beq_eq_false_iff_ne.2 n2) ?_
             | exact trivial
             | (with_reducible rfl)
             | exact (rfl : (0 : Int) = ((0 : Nat) : Int))
             | exact w64_nat arith
             | refine bcase_T (by first | with_reducible rfl | decide) ?_
             | refine bcase_F (by first | with_reducible rfl | decide) ?_
             | refine bcase_dec (fun _ => ?_) (fun _ => ?_)
             | refine bcase_not ?_
             | refine bcase_intro (fun _ => ?_) (fun _ => ?_)
             | refine ⟨(by with_reducible rfl), ?_⟩
             | refine ⟨congrArg vi ?_, ?_⟩
             | refine ⟨congrArg vb ?_, ?_⟩
             | refine ⟨rfl, ?_⟩
             | refine ⟨(by kernel_rfl : drawOK _ = true), ?_⟩
             | refine Or.inl ?_
             | refine ⟨⟨congrArg (T.int _) ?_, rfl⟩, ?_⟩
             | refine ⟨⟨congrArg T.bool ?_, rfl⟩, ?_⟩
             | refine ⟨⟨rfl, Nat.le_of_ble_eq_true rfl⟩, ?_⟩
             | refine ⟨⟨rfl, rfl⟩, ?_⟩
             | refine ⟨⟨rfl, (by decide)⟩, ?_⟩
             | refine ⟨⟨rfl, ?_⟩, ?_⟩
             | refine ⟨Or.inr rfl, ?_⟩
             | refine ⟨Or.inl rfl, ?_⟩
             | refine ⟨⟨⟨rfl, rfl, rfl⟩, ?_⟩, ?_⟩
             | refine ⟨_, _, rfl, row_get _ _ arith, rfl, ?_⟩
             | refine ⟨Or.inr (by repeat (first | exact trivial | refine ⟨rfl, ?_⟩)), ?_⟩
             | refine ⟨(?_ : _ = ([] : List (List T))), ?_⟩
             | fail))
      all_goals rfl
