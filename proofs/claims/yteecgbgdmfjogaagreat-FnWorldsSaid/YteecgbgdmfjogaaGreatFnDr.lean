/-
  Contracts: the cursor that draws.
  Conditions: none.
-/
import Derived.Test.YteecgbgdmfjogaaGreatVmY
import Derived.Test.YteecgbgdmfjogaaGreatVmAc
namespace Go.Proofs.YteecgbgdmfjogaaGreat
set_option maxHeartbeats 4000000
set_option maxRecDepth 20000
open Go.Vm Go.RowKit
attribute [local irreducible] FnAt MutAt InAt JAt CurAt FnE CurE RegAt
structure Cu where
  b : List UInt8
  i : Nat
  h : Int
def Cu.e (c : Cu) : List T := [L eU c.b, I c.i, I c.h]
def cuH (h : Int) : Int := IntKind.i64.wrap (IntKind.i64.wrap (h * 6364136223846793005) + 1442695040888963407)
def cuX (h : Int) : Int := bits .and .i64 (bits .xor .i64 (h.fdiv (2 ^ 33)) (h.fdiv (2 ^ 47))) 255
def cuV (c : Cu) : Int := match c.b[c.i]? with
  | some u => bits .and .i64 (IntKind.i64.wrap (cuX (cuH c.h) + IntKind.i64.wrap (u.toNat : Int))) 255
  | none => cuX (cuH c.h)
def cuN (c : Cu) : Cu := ⟨c.b, if c.i < c.b.length then c.i + 1 else c.i, cuH c.h⟩
theorem cuV_T {b : List UInt8} {i : Nat} {h : Int} (h0 : i < b.length) : cuV ⟨b, i, h⟩ = bits .and .i64 (IntKind.i64.wrap (cuX (cuH h) + IntKind.i64.wrap (b[i].toNat : Int))) 255 := by
  simp only [cuV, List.getElem?_eq_getElem h0]
theorem cuV_F {b : List UInt8} {i : Nat} {h : Int} (h0 : ¬ i < b.length) : cuV ⟨b, i, h⟩ = cuX (cuH h) := by
  simp only [cuV, List.getElem?_eq_none (Nat.le_of_not_lt h0)]
theorem band_le (x : Int) : 0 ≤ bits .and .i64 x 255 ∧ bits .and .i64 x 255 ≤ 255 := by
  have e : (BitVec.ofInt 64 x &&& BitVec.ofInt 64 255).toNat ≤ 255 := by
    rw [BitVec.toNat_and]
    exact Nat.and_le_right
  have : bits .and .i64 x 255 = IntKind.i64.wrap ((BitVec.ofInt 64 x &&& BitVec.ofInt 64 255).toNat : Int) := rfl
  rw [this, w64_ok (by omega) (by omega)]
  omega
theorem cuV_le (c : Cu) : 0 ≤ cuV c ∧ cuV c ≤ 255 := by
  unfold cuV
  split
  · exact band_le _
  · exact band_le _
def Cu.ok (c : Cu) : Prop := c.b.length ≤ 1048576 ∧ c.i ≤ c.b.length
theorem cuN_ok {c : Cu} (h : c.ok) : (cuN c).ok := by
  obtain ⟨h1, h2⟩ := h
  refine ⟨h1, ?_⟩
  simp only [cuN]
  split <;> omega
theorem c_l1Byte (c : Cu) (h : c.ok) : CurAt Tryz.prog 58 (Cu.e c) (Cu.e (cuN c)) [] [.one (.s (I (cuV c)))] := by
  obtain ⟨b, i, h'⟩ := c
  obtain ⟨h1, h2⟩ := h
  replace h1 : b.length ≤ 1048576 := h1
  replace h2 : i ≤ b.length := h2
  have hm : (b.map eU).length = b.length := List.length_map _
  refine cur_of Tryz.func58 rfl (by kernel_rfl) rfl ?_
  all_goals repeat' (first | (with_reducible rfl) | ((conv => whnf); first | exact trivial | (with_reducible rfl) | exact (rfl : (0 : Int) = ((0 : Nat) : Int)) | exact w64_nat arith | refine bcase_T (by first | with_reducible rfl | decide) ?_ | refine bcase_F (by first | with_reducible rfl | decide) ?_ | refine bcase_dec (fun _ => ?_) (fun _ => ?_) | refine bcase_not ?_ | refine bcase_intro (fun _ => ?_) (fun _ => ?_) | refine ⟨(by with_reducible rfl), ?_⟩ | refine ⟨congrArg vi ?_, ?_⟩ | refine ⟨congrArg vb ?_, ?_⟩ | refine ⟨rfl, ?_⟩ | refine ⟨(by kernel_rfl : drawOK _ = true), ?_⟩ | refine Or.inl ?_ | refine ⟨⟨congrArg (T.int _) ?_, rfl⟩, ?_⟩ | refine ⟨⟨congrArg T.bool ?_, rfl⟩, ?_⟩ | refine ⟨⟨rfl, Nat.le_of_ble_eq_true rfl⟩, ?_⟩ | refine ⟨⟨rfl, rfl⟩, ?_⟩ | refine ⟨⟨rfl, (by decide)⟩, ?_⟩ | refine ⟨⟨rfl, ?_⟩, ?_⟩ | refine ⟨Or.inr rfl, ?_⟩ | refine ⟨Or.inl rfl, ?_⟩ | refine ⟨⟨⟨rfl, rfl, rfl⟩, ?_⟩, ?_⟩ | refine ⟨_, _, rfl, row_get _ _ arith, rfl, ?_⟩ | refine ⟨Or.inr (by repeat (first | exact trivial | refine ⟨rfl, ?_⟩)), ?_⟩ | refine ⟨(?_ : _ = ([] : List (List T))), ?_⟩ | refine ⟨(by decide : (0 : Int) ≤ _), ?_⟩ | refine ⟨i, rfl, (by simp only [List.length_map]; exact lt_map (by assumption)), ?_⟩ | refine ⟨_, _, rfl, row_get _ _ (lt_map (by assumption)), rfl, ?_⟩ | fail))
  all_goals first
    | (have h0 : i < b.length := lt_map (by assumption); rw [cuV_T h0]; rfl)
    | (have h0 : i < b.length := lt_map (by assumption); simp only [cuN, if_pos h0]; rw [w64_nat (by omega)]; done)
    | (have h0 : ¬ i < b.length := (fun h => (by assumption : ¬ _) (by simp only [List.length_map]; exact Int.ofNat_lt.2 h)); rw [cuV_F h0]; rfl)
    | (have h0 : ¬ i < b.length := (fun h => (by assumption : ¬ _) (by simp only [List.length_map]; exact Int.ofNat_lt.2 h)); simp only [cuN, if_neg h0]; done)
    | rfl
def beV (c : Cu) (n : Int) : Int := if n ≤ 0 then 0 else if n ≤ 256 then (cuV c).tmod n else (cuV c * 65536 + cuV (cuN c) * 256 + cuV (cuN (cuN c))).tmod n
def beN (c : Cu) (n : Int) : Cu := if n ≤ 0 then c else if n ≤ 256 then cuN c else cuN (cuN (cuN c))
theorem beN_ok {c : Cu} {n : Int} (h : c.ok) : (beN c n).ok := by
  unfold beN
  split
  · exact h
  · split
    · exact cuN_ok h
    · exact cuN_ok (cuN_ok (cuN_ok h))
theorem beV_lt {c : Cu} {n : Int} (h : 0 < n) : 0 ≤ beV c n ∧ beV c n < n := by
  have h1 := cuV_le c
  have h2 := cuV_le (cuN c)
  have h3 := cuV_le (cuN (cuN c))
  unfold beV
  rw [if_neg (by omega)]
  split <;> (rw [Int.tmod_eq_emod_of_nonneg (by omega)]; exact ⟨Int.emod_nonneg _ (by omega), Int.emod_lt_of_pos _ h⟩)
theorem c_l1Below (c : Cu) (n : Int) (h : c.ok) : CurAt Tryz.prog 20 (Cu.e c) (Cu.e (beN c n)) [.one (I n)] [.one (.s (I (beV c n)))] := by
  have h1 := cuV_le c
  have h2 := cuV_le (cuN c)
  have h3 := cuV_le (cuN (cuN c))
  by_cases n1 : n ≤ 0
  · have e1 : beN c n = c := if_pos n1
    have e2 : beV c n = 0 := if_pos n1
    rw [e1, e2]
    refine cur_of Tryz.func20 rfl (by kernel_rfl) rfl ?_
    all_goals repeat' (first | (with_reducible rfl) | ((conv => whnf); first | refine bcase_T (by rw [decide_eq_true_eq]; omega) ?_ | exact trivial | (with_reducible rfl) | exact (rfl : (0 : Int) = ((0 : Nat) : Int)) | exact w64_nat arith | refine bcase_T (by first | with_reducible rfl | decide) ?_ | refine bcase_F (by first | with_reducible rfl | decide) ?_ | refine bcase_dec (fun _ => ?_) (fun _ => ?_) | refine bcase_not ?_ | refine bcase_intro (fun _ => ?_) (fun _ => ?_) | refine ⟨(by with_reducible rfl), ?_⟩ | refine ⟨congrArg vi ?_, ?_⟩ | refine ⟨congrArg vb ?_, ?_⟩ | refine ⟨rfl, ?_⟩ | refine ⟨(by kernel_rfl : drawOK _ = true), ?_⟩ | refine Or.inl ?_ | refine ⟨⟨congrArg (T.int _) ?_, rfl⟩, ?_⟩ | refine ⟨⟨congrArg T.bool ?_, rfl⟩, ?_⟩ | refine ⟨⟨rfl, Nat.le_of_ble_eq_true rfl⟩, ?_⟩ | refine ⟨⟨rfl, rfl⟩, ?_⟩ | refine ⟨⟨rfl, (by decide)⟩, ?_⟩ | refine ⟨⟨rfl, ?_⟩, ?_⟩ | refine ⟨Or.inr rfl, ?_⟩ | refine ⟨Or.inl rfl, ?_⟩ | refine ⟨⟨⟨rfl, rfl, rfl⟩, ?_⟩, ?_⟩ | refine ⟨_, _, rfl, row_get _ _ arith, rfl, ?_⟩ | refine ⟨Or.inr (by repeat (first | exact trivial | refine ⟨rfl, ?_⟩)), ?_⟩ | refine ⟨(?_ : _ = ([] : List (List T))), ?_⟩ | fail))
  · by_cases n2 : n ≤ 256
    · have e1 : beN c n = cuN c := by unfold beN; rw [if_neg n1, if_pos n2]
      have e2 : beV c n = (cuV c).tmod n := by unfold beV; rw [if_neg n1, if_pos n2]
      rw [e1, e2]
      refine cur_of Tryz.func20 rfl (by kernel_rfl) rfl ?_
      all_goals repeat' (first | (with_reducible rfl) | ((conv => whnf); first | refine bcase_F (by rw [decide_eq_false_iff_not]; omega) ?_ | refine bcase_T (by rw [decide_eq_true_eq]; omega) ?_ | (refine Or.inr ⟨rfl, Or.inl ?_⟩; (conv => whnf); refine inAt_cur (c_l1Byte c h) (by rfl) (by rfl) (by rfl) ?_) | refine ⟨(by omega : _ ≠ (0 : Int)), ?_⟩ | exact trivial | (with_reducible rfl) | exact (rfl : (0 : Int) = ((0 : Nat) : Int)) | exact w64_nat arith | refine bcase_T (by first | with_reducible rfl | decide) ?_ | refine bcase_F (by first | with_reducible rfl | decide) ?_ | refine bcase_dec (fun _ => ?_) (fun _ => ?_) | refine bcase_not ?_ | refine bcase_intro (fun _ => ?_) (fun _ => ?_) | refine ⟨(by with_reducible rfl), ?_⟩ | refine ⟨congrArg vi ?_, ?_⟩ | refine ⟨congrArg vb ?_, ?_⟩ | refine ⟨rfl, ?_⟩ | refine ⟨(by kernel_rfl : drawOK _ = true), ?_⟩ | refine Or.inl ?_ | refine ⟨⟨congrArg (T.int _) ?_, rfl⟩, ?_⟩ | refine ⟨⟨congrArg T.bool ?_, rfl⟩, ?_⟩ | refine ⟨⟨rfl, Nat.le_of_ble_eq_true rfl⟩, ?_⟩ | refine ⟨⟨rfl, rfl⟩, ?_⟩ | refine ⟨⟨rfl, (by decide)⟩, ?_⟩ | refine ⟨⟨rfl, ?_⟩, ?_⟩ | refine ⟨Or.inr rfl, ?_⟩ | refine ⟨Or.inl rfl, ?_⟩ | refine ⟨⟨⟨rfl, rfl, rfl⟩, ?_⟩, ?_⟩ | refine ⟨_, _, rfl, row_get _ _ arith, rfl, ?_⟩ | refine ⟨Or.inr (by repeat (first | exact trivial | refine ⟨rfl, ?_⟩)), ?_⟩ | refine ⟨(?_ : _ = ([] : List (List T))), ?_⟩ | fail))
    · have e1 : beN c n = cuN (cuN (cuN c)) := by unfold beN; rw [if_neg n1, if_neg n2]
      have e2 : beV c n = (cuV c * 65536 + cuV (cuN c) * 256 + cuV (cuN (cuN c))).tmod n := by unfold beV; rw [if_neg n1, if_neg n2]
      rw [e1, e2]
      refine cur_of Tryz.func20 rfl (by kernel_rfl) rfl ?_
      all_goals repeat' (first | (with_reducible rfl) | ((conv => whnf); first | refine bcase_F (by rw [decide_eq_false_iff_not]; omega) ?_ | (refine Or.inr ⟨rfl, Or.inl ?_⟩; (conv => whnf); refine inAt_cur (c_l1Byte c h) (by rfl) (by rfl) (by rfl) ?_) | (refine Or.inr ⟨rfl, Or.inl ?_⟩; (conv => whnf); refine inAt_cur (c_l1Byte (cuN c) (cuN_ok h)) (by rfl) (by rfl) (by rfl) ?_) | (refine Or.inr ⟨rfl, Or.inl ?_⟩; (conv => whnf); refine inAt_cur (c_l1Byte (cuN (cuN c)) (cuN_ok (cuN_ok h))) (by rfl) (by rfl) (by rfl) ?_) | refine ⟨(by omega : _ ≠ (0 : Int)), ?_⟩ | exact trivial | (with_reducible rfl) | exact (rfl : (0 : Int) = ((0 : Nat) : Int)) | exact w64_nat arith | refine bcase_T (by first | with_reducible rfl | decide) ?_ | refine bcase_F (by first | with_reducible rfl | decide) ?_ | refine bcase_dec (fun _ => ?_) (fun _ => ?_) | refine bcase_not ?_ | refine bcase_intro (fun _ => ?_) (fun _ => ?_) | refine ⟨(by with_reducible rfl), ?_⟩ | refine ⟨congrArg vi ?_, ?_⟩ | refine ⟨congrArg vb ?_, ?_⟩ | refine ⟨rfl, ?_⟩ | refine ⟨(by kernel_rfl : drawOK _ = true), ?_⟩ | refine Or.inl ?_ | refine ⟨⟨congrArg (T.int _) ?_, rfl⟩, ?_⟩ | refine ⟨⟨congrArg T.bool ?_, rfl⟩, ?_⟩ | refine ⟨⟨rfl, Nat.le_of_ble_eq_true rfl⟩, ?_⟩ | refine ⟨⟨rfl, rfl⟩, ?_⟩ | refine ⟨⟨rfl, (by decide)⟩, ?_⟩ | refine ⟨⟨rfl, ?_⟩, ?_⟩ | refine ⟨Or.inr rfl, ?_⟩ | refine ⟨Or.inl rfl, ?_⟩ | refine ⟨⟨⟨rfl, rfl, rfl⟩, ?_⟩, ?_⟩ | refine ⟨_, _, rfl, row_get _ _ arith, rfl, ?_⟩ | refine ⟨Or.inr (by repeat (first | exact trivial | refine ⟨rfl, ?_⟩)), ?_⟩ | refine ⟨(?_ : _ = ([] : List (List T))), ?_⟩ | fail))
      all_goals (rw [w64_ok (n := cuV c * 65536) (by omega) (by omega), w64_ok (n := cuV (cuN c) * 256) (by omega) (by omega), w64_ok (n := cuV c * 65536 + cuV (cuN c) * 256) (by omega) (by omega), w64_ok (by omega) (by omega)]; done)
theorem c_l1Once (c : Cu) (n : Int) (h : c.ok) : CurAt Tryz.prog 105 (Cu.e c) (Cu.e (beN c n)) [.one (I n)] [.one (.s (.bool (beV c n == 0)))] := by
  refine cur_of Tryz.func105 rfl (by kernel_rfl) rfl ?_
  all_goals repeat' (first | (with_reducible rfl) | ((conv => whnf); first | (refine Or.inr ⟨rfl, Or.inl ?_⟩; (conv => whnf); refine inAt_cur (c_l1Below c n h) (by rfl) (by rfl) (by rfl) ?_) | exact trivial | (with_reducible rfl) | exact (rfl : (0 : Int) = ((0 : Nat) : Int)) | exact w64_nat arith | refine bcase_T (by first | with_reducible rfl | decide) ?_ | refine bcase_F (by first | with_reducible rfl | decide) ?_ | refine bcase_dec (fun _ => ?_) (fun _ => ?_) | refine bcase_not ?_ | refine bcase_intro (fun _ => ?_) (fun _ => ?_) | refine ⟨(by with_reducible rfl), ?_⟩ | refine ⟨congrArg vi ?_, ?_⟩ | refine ⟨congrArg vb ?_, ?_⟩ | refine ⟨rfl, ?_⟩ | refine ⟨(by kernel_rfl : drawOK _ = true), ?_⟩ | refine Or.inl ?_ | refine ⟨⟨congrArg (T.int _) ?_, rfl⟩, ?_⟩ | refine ⟨⟨congrArg T.bool ?_, rfl⟩, ?_⟩ | refine ⟨⟨rfl, Nat.le_of_ble_eq_true rfl⟩, ?_⟩ | refine ⟨⟨rfl, rfl⟩, ?_⟩ | refine ⟨⟨rfl, (by decide)⟩, ?_⟩ | refine ⟨⟨rfl, ?_⟩, ?_⟩ | refine ⟨Or.inr rfl, ?_⟩ | refine ⟨Or.inl rfl, ?_⟩ | refine ⟨⟨⟨rfl, rfl, rfl⟩, ?_⟩, ?_⟩ | refine ⟨_, _, rfl, row_get _ _ arith, rfl, ?_⟩ | refine ⟨Or.inr (by repeat (first | exact trivial | refine ⟨rfl, ?_⟩)), ?_⟩ | refine ⟨(?_ : _ = ([] : List (List T))), ?_⟩ | fail))
theorem c_l1Int (c : Cu) (xs : List Int) (h : c.ok) (hx : 0 < xs.length) (hx2 : xs.length ≤ 1099511627776) : CurAt Tryz.prog 19 (Cu.e c) (Cu.e (beN c xs.length)) [.one (L eI xs)] [.one (.s (I (xs[(beV c xs.length).toNat]?.getD 0)))] := by
  have hm : (xs.map eI).length = xs.length := List.length_map _
  have hb := beV_lt (c := c) (n := (xs.length : Int)) (by omega)
  obtain ⟨k, hk⟩ : ∃ k : Nat, beV c xs.length = (k : Int) := ⟨_, (Int.toNat_of_nonneg hb.1).symm⟩
  have hk2 : k < xs.length := by omega
  have hg : xs[(beV c xs.length).toNat]?.getD 0 = xs[k] := by
    rw [hk, show ((k : Int)).toNat = k from rfl, List.getElem?_eq_getElem hk2]; rfl
  have e : (xs.length : Int) = ((xs.map eI).length : Int) := by rw [hm]
  rw [hg, e]
  rw [e] at hk
  refine cur_of Tryz.func19 rfl (by kernel_rfl) rfl ?_
  all_goals repeat' (first | (with_reducible rfl) | ((conv => whnf); first | (refine Or.inr ⟨rfl, Or.inl ?_⟩; (conv => whnf); refine inAt_cur (c_l1Below c ((xs.map eI).length : Int) h) (by rfl) (by rfl) (by rfl) ?_) | refine ⟨k, hk, (by rw [List.length_map]; exact hk2), ?_⟩ | refine ⟨k, _, hk, row_get _ _ hk2, rfl, ?_⟩ | exact trivial | (with_reducible rfl) | exact (rfl : (0 : Int) = ((0 : Nat) : Int)) | exact w64_nat arith | refine bcase_T (by first | with_reducible rfl | decide) ?_ | refine bcase_F (by first | with_reducible rfl | decide) ?_ | refine bcase_dec (fun _ => ?_) (fun _ => ?_) | refine bcase_not ?_ | refine bcase_intro (fun _ => ?_) (fun _ => ?_) | refine ⟨(by with_reducible rfl), ?_⟩ | refine ⟨congrArg vi ?_, ?_⟩ | refine ⟨congrArg vb ?_, ?_⟩ | refine ⟨rfl, ?_⟩ | refine ⟨(by kernel_rfl : drawOK _ = true), ?_⟩ | refine Or.inl ?_ | refine ⟨⟨congrArg (T.int _) ?_, rfl⟩, ?_⟩ | refine ⟨⟨congrArg T.bool ?_, rfl⟩, ?_⟩ | refine ⟨⟨rfl, Nat.le_of_ble_eq_true rfl⟩, ?_⟩ | refine ⟨⟨rfl, rfl⟩, ?_⟩ | refine ⟨⟨rfl, (by decide)⟩, ?_⟩ | refine ⟨⟨rfl, ?_⟩, ?_⟩ | refine ⟨Or.inr rfl, ?_⟩ | refine ⟨Or.inl rfl, ?_⟩ | refine ⟨⟨⟨rfl, rfl, rfl⟩, ?_⟩, ?_⟩ | refine ⟨_, _, rfl, row_get _ _ arith, rfl, ?_⟩ | refine ⟨Or.inr (by repeat (first | exact trivial | refine ⟨rfl, ?_⟩)), ?_⟩ | refine ⟨(?_ : _ = ([] : List (List T))), ?_⟩ | fail))
