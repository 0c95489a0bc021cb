/-
  Contract: the statement about two friends.
  Conditions: none.
-/
import Derived.Test.YtpelgajmebgbaaaFnFp
namespace Go.Proofs.Ytpelgajmebgbaaa
set_option maxHeartbeats 20000000
set_option maxRecDepth 20000
open Go.Vm Go.RowKit
attribute [local irreducible] FnAt MutAt InAt

def atI (b : List UInt8) (i : Nat) : Int := if h : i < b.length then (b[i].toNat : Int) else (IntKind.i64.wrap (IntKind.i64.wrap ((i : Int) * 31) + IntKind.i64.wrap ((b.length : Int) * 7))).tmod 256
theorem atI_range {b : List UInt8} (hb : b.length ≤ 1048576) {i : Nat} (hi : i ≤ 2) : 0 ≤ atI b i ∧ atI b i ≤ 255 := by
  unfold atI
  split
  · have := u8_lt (b[i]'(by assumption)); omega
  · rw [w64_ok (n := (i : Int) * 31) (by omega) (by omega), w64_ok (n := (b.length : Int) * 7) (by omega) (by omega), w64_ok (by omega) (by omega), Int.tmod_eq_emod_of_nonneg (by omega)]
    omega
theorem c_at (b : List UInt8) (i : Nat) : FnAt Try.prog 5 [.one (L eU b), .one (I i)] [.one (.s (I (atI b i)))] := by
  have hm : (b.map eU).length = b.length := List.length_map eU
  refine fn_of Try.func5 rfl (by kernel_rfl) rfl ?_
  all_goals repeat' (first
    | (with_reducible rfl)
    | (conv => whnf
       first
         | exact trivial
         | (with_reducible rfl)
         | exact (rfl : (0 : Int) = ((0 : Nat) : Int))
         | exact w64_nat arith
         | refine bcase_T (by first | with_reducible rfl | decide) ?_
         | refine bcase_F (by first | with_reducible rfl | decide) ?_
         | refine bcase_dec (fun _ => ?_) (fun _ => ?_)
         | refine bcase_not ?_
         | refine bcase_intro (fun _ => ?_) (fun _ => ?_)
         | refine ⟨(by with_reducible rfl), ?_⟩
         | refine ⟨congrArg vi ?_, ?_⟩
         | refine ⟨congrArg vb ?_, ?_⟩
         | refine ⟨rfl, ?_⟩
         | refine ⟨(by kernel_rfl : drawOK _ = true), ?_⟩
         | refine Or.inl ?_
         | refine ⟨⟨congrArg (T.int _) ?_, rfl⟩, ?_⟩
         | refine ⟨⟨congrArg T.bool ?_, rfl⟩, ?_⟩
         | refine ⟨⟨rfl, Nat.le_of_ble_eq_true rfl⟩, ?_⟩
         | refine ⟨⟨rfl, rfl⟩, ?_⟩
         | refine ⟨⟨rfl, (by decide)⟩, ?_⟩
         | refine ⟨⟨rfl, ?_⟩, ?_⟩
         | refine ⟨Or.inr rfl, ?_⟩
         | refine ⟨Or.inl rfl, ?_⟩
         | refine ⟨⟨⟨rfl, rfl, rfl⟩, ?_⟩, ?_⟩
         | refine ⟨_, _, rfl, row_get _ _ arith, rfl, ?_⟩
         | refine ⟨Or.inr (by repeat (first | exact trivial | refine ⟨rfl, ?_⟩)), ?_⟩
         | refine ⟨(?_ : _ = ([] : List (List T))), ?_⟩
         | refine ⟨(by decide : (256 : Int) ≠ 0), ?_⟩
         | refine ⟨i, _, rfl, row_get _ _ (by omega), rfl, ?_⟩
         | fail))
  all_goals first
    | (unfold atI; rw [dif_pos (by omega), wrap_byte]; done)
    | (unfold atI; rw [dif_neg (by omega), hm]; done)
    | skip
theorem c_big (b : List UInt8) : FnAt Try.prog 4 [.one (L eU b)] [.one (.s (.bool (decide (1048576 < (b.length : Int)))))] := by
  have hm : (b.map eU).length = b.length := List.length_map eU
  refine fn_of Try.func4 rfl (by kernel_rfl) rfl ?_
  all_goals repeat' (first
    | (with_reducible rfl)
    | (conv => whnf
       first
         | exact trivial
         | (with_reducible rfl)
         | exact (rfl : (0 : Int) = ((0 : Nat) : Int))
         | exact w64_nat arith
         | refine bcase_T (by first | with_reducible rfl | decide) ?_
         | refine bcase_F (by first | with_reducible rfl | decide) ?_
         | refine bcase_dec (fun _ => ?_) (fun _ => ?_)
         | refine bcase_not ?_
         | refine bcase_intro (fun _ => ?_) (fun _ => ?_)
         | refine ⟨(by with_reducible rfl), ?_⟩
         | refine ⟨congrArg vi ?_, ?_⟩
         | refine ⟨congrArg vb ?_, ?_⟩
         | refine ⟨rfl, ?_⟩
         | refine ⟨(by kernel_rfl : drawOK _ = true), ?_⟩
         | refine Or.inl ?_
         | refine ⟨⟨congrArg (T.int _) ?_, rfl⟩, ?_⟩
         | refine ⟨⟨congrArg T.bool ?_, rfl⟩, ?_⟩
         | refine ⟨⟨rfl, Nat.le_of_ble_eq_true rfl⟩, ?_⟩
         | refine ⟨⟨rfl, rfl⟩, ?_⟩
         | refine ⟨⟨rfl, (by decide)⟩, ?_⟩
         | refine ⟨⟨rfl, ?_⟩, ?_⟩
         | refine ⟨Or.inr rfl, ?_⟩
         | refine ⟨Or.inl rfl, ?_⟩
         | refine ⟨⟨⟨rfl, rfl, rfl⟩, ?_⟩, ?_⟩
         | refine ⟨_, _, rfl, row_get _ _ arith, rfl, ?_⟩
         | refine ⟨Or.inr (by repeat (first | exact trivial | refine ⟨rfl, ?_⟩)), ?_⟩
         | refine ⟨(?_ : _ = ([] : List (List T))), ?_⟩
         | fail))
  all_goals (rw [hm])
theorem c_sameBytes (xs : List UInt8) (hx : xs.length ≤ 1099511627776) : FnAt Try.prog 11 [.one (L eU xs), .one (L eU xs)] [.one (.s (.bool true))] := by
  have hm : (xs.map eU).length = xs.length := List.length_map eU
  refine fn_of Try.func11 rfl (by kernel_rfl) rfl ?_
  all_goals repeat' (first
    | (with_reducible rfl)
    | (conv => whnf
       first
         | refine bcase_F (bne_eq_false_iff_eq.2 rfl) ?_
         | exact trivial
         | (with_reducible rfl)
         | exact (rfl : (0 : Int) = ((0 : Nat) : Int))
         | exact w64_nat arith
         | refine bcase_T (by first | with_reducible rfl | decide) ?_
         | refine bcase_F (by first | with_reducible rfl | decide) ?_
         | refine bcase_dec (fun _ => ?_) (fun _ => ?_)
         | refine bcase_not ?_
         | refine bcase_intro (fun _ => ?_) (fun _ => ?_)
         | refine ⟨(by with_reducible rfl), ?_⟩
         | refine ⟨congrArg vi ?_, ?_⟩
         | refine ⟨congrArg vb ?_, ?_⟩
         | refine ⟨rfl, ?_⟩
         | refine ⟨(by kernel_rfl : drawOK _ = true), ?_⟩
         | refine Or.inl ?_
         | refine ⟨⟨congrArg (T.int _) ?_, rfl⟩, ?_⟩
         | refine ⟨⟨congrArg T.bool ?_, rfl⟩, ?_⟩
         | refine ⟨⟨rfl, Nat.le_of_ble_eq_true rfl⟩, ?_⟩
         | refine ⟨⟨rfl, rfl⟩, ?_⟩
         | refine ⟨⟨rfl, (by decide)⟩, ?_⟩
         | refine ⟨⟨rfl, ?_⟩, ?_⟩
         | refine ⟨Or.inr rfl, ?_⟩
         | refine ⟨Or.inl rfl, ?_⟩
         | refine ⟨⟨⟨rfl, rfl, rfl⟩, ?_⟩, ?_⟩
         | refine ⟨_, _, rfl, row_get _ _ arith, rfl, ?_⟩
         | refine ⟨Or.inr (by repeat (first | exact trivial | refine ⟨rfl, ?_⟩)), ?_⟩
         | refine ⟨(?_ : _ = ([] : List (List T))), ?_⟩
         | fail))
  conv => whnf
  refine ⟨Nat, fun i => i ≤ xs.length, fun i => ⟨[(0, vl (xs.map eU)), (1, vl (xs.map eU)), (5, vi i)], [], 0⟩, fun i => xs.length - i, 0, Nat.zero_le _, ⟨[], rfl, rfl, rfl, ?_, ?_⟩, fun i (hi : i ≤ xs.length) => ?_⟩
  all_goals repeat' (first
    | (with_reducible rfl)
    | (conv => whnf
       first
         | refine bcase_F (bne_eq_false_iff_eq.2 rfl) ?_
         | refine ⟨i, _, rfl, row_get _ _ (by omega), rfl, ?_⟩
         | refine ⟨i + 1, ⟨arith, arith⟩, ⟨[], rfl, rfl, rfl, ?_, ?_⟩⟩
         | exact trivial
         | (with_reducible rfl)
         | exact (rfl : (0 : Int) = ((0 : Nat) : Int))
         | exact w64_nat arith
         | refine bcase_T (by first | with_reducible rfl | decide) ?_
         | refine bcase_F (by first | with_reducible rfl | decide) ?_
         | refine bcase_dec (fun _ => ?_) (fun _ => ?_)
         | refine bcase_not ?_
         | refine bcase_intro (fun _ => ?_) (fun _ => ?_)
         | refine ⟨(by with_reducible rfl), ?_⟩
         | refine ⟨congrArg vi ?_, ?_⟩
         | refine ⟨congrArg vb ?_, ?_⟩
         | refine ⟨rfl, ?_⟩
         | refine ⟨(by kernel_rfl : drawOK _ = true), ?_⟩
         | refine Or.inl ?_
         | refine ⟨⟨congrArg (T.int _) ?_, rfl⟩, ?_⟩
         | refine ⟨⟨congrArg T.bool ?_, rfl⟩, ?_⟩
         | refine ⟨⟨rfl, Nat.le_of_ble_eq_true rfl⟩, ?_⟩
         | refine ⟨⟨rfl, rfl⟩, ?_⟩
         | refine ⟨⟨rfl, (by decide)⟩, ?_⟩
         | refine ⟨⟨rfl, ?_⟩, ?_⟩
         | refine ⟨Or.inr rfl, ?_⟩
         | refine ⟨Or.inl rfl, ?_⟩
         | refine ⟨⟨⟨rfl, rfl, rfl⟩, ?_⟩, ?_⟩
         | refine ⟨_, _, rfl, row_get _ _ arith, rfl, ?_⟩
         | refine ⟨Or.inr (by repeat (first | exact trivial | refine ⟨rfl, ?_⟩)), ?_⟩
         | refine ⟨(?_ : _ = ([] : List (List T))), ?_⟩
         | fail))
theorem c_WaitingMessages (c : DClient) (h : IntKind.i64.wrap ((c.Submitted.length : Int) - c.Sent) = 0) : FnAt Try.prog 12 [.agg (DClient.e c)] [.one (.s (I 0))] := by
  have hm : (c.Submitted.map (eL eU)).length = c.Submitted.length := List.length_map (eL eU)
  refine fn_of Try.func12 rfl (by kernel_rfl) rfl ?_
  all_goals repeat' (first
    | (with_reducible rfl)
    | (conv => whnf
       first
         | exact trivial
         | (with_reducible rfl)
         | exact (rfl : (0 : Int) = ((0 : Nat) : Int))
         | exact w64_nat arith
         | refine bcase_T (by first | with_reducible rfl | decide) ?_
         | refine bcase_F (by first | with_reducible rfl | decide) ?_
         | refine bcase_dec (fun _ => ?_) (fun _ => ?_)
         | refine bcase_not ?_
         | refine bcase_intro (fun _ => ?_) (fun _ => ?_)
         | refine ⟨(by with_reducible rfl), ?_⟩
         | refine ⟨congrArg vi ?_, ?_⟩
         | refine ⟨congrArg vb ?_, ?_⟩
         | refine ⟨rfl, ?_⟩
         | refine ⟨(by kernel_rfl : drawOK _ = true), ?_⟩
         | refine Or.inl ?_
         | refine ⟨⟨congrArg (T.int _) ?_, rfl⟩, ?_⟩
         | refine ⟨⟨congrArg T.bool ?_, rfl⟩, ?_⟩
         | refine ⟨⟨rfl, Nat.le_of_ble_eq_true rfl⟩, ?_⟩
         | refine ⟨⟨rfl, rfl⟩, ?_⟩
         | refine ⟨⟨rfl, (by decide)⟩, ?_⟩
         | refine ⟨⟨rfl, ?_⟩, ?_⟩
         | refine ⟨Or.inr rfl, ?_⟩
         | refine ⟨Or.inl rfl, ?_⟩
         | refine ⟨⟨⟨rfl, rfl, rfl⟩, ?_⟩, ?_⟩
         | refine ⟨_, _, rfl, row_get _ _ arith, rfl, ?_⟩
         | refine ⟨Or.inr (by repeat (first | exact trivial | refine ⟨rfl, ?_⟩)), ?_⟩
         | refine ⟨(?_ : _ = ([] : List (List T))), ?_⟩
         | fail))
  all_goals (rw [hm, h])
theorem frA_big (k : Int) : bigC (frA k) := by simp [bigC, frA]
theorem frB_big (k : Int) (v : UInt8) : bigC (frB k v) := by simp [bigC, frB]
theorem frA_dir (k : Int) : dirOf (frA k) = 0 ∧ (frA k).Key = k := ⟨rfl, rfl⟩
theorem frB_dir (k : Int) (v : UInt8) : dirOf (frB k v) = 1 ∧ (frB k v).Key = k := ⟨rfl, rfl⟩
attribute [local irreducible] frX frY sealCell frA frB dirKey atI
theorem c_FnFriends (a0 : List UInt8) (_ : a0.length ≤ maxLen) : FnAt Try.prog 3 [.one (L eU a0)] [.one (.s (.bool true))] := by
  by_cases hb : a0.length ≤ 1048576
  case neg =>
    refine fn_of Try.func3 rfl (by kernel_rfl) rfl ?_
    all_goals repeat' (first
      | (with_reducible rfl)
      | (conv => whnf
         first
           | refine ⟨_, c_big a0, ?_⟩
           | refine bcase_T (by rw [decide_eq_true_eq]; omega) ?_
           | exact trivial
           | (with_reducible rfl)
           | exact (rfl : (0 : Int) = ((0 : Nat) : Int))
           | exact w64_nat arith
           | refine bcase_T (by first | with_reducible rfl | decide) ?_
           | refine bcase_F (by first | with_reducible rfl | decide) ?_
           | refine bcase_dec (fun _ => ?_) (fun _ => ?_)
           | refine bcase_not ?_
           | refine bcase_intro (fun _ => ?_) (fun _ => ?_)
           | refine ⟨(by with_reducible rfl), ?_⟩
           | refine ⟨congrArg vi ?_, ?_⟩
           | refine ⟨congrArg vb ?_, ?_⟩
           | refine ⟨rfl, ?_⟩
           | refine ⟨(by kernel_rfl : drawOK _ = true), ?_⟩
           | refine Or.inl ?_
           | refine ⟨⟨congrArg (T.int _) ?_, rfl⟩, ?_⟩
           | refine ⟨⟨congrArg T.bool ?_, rfl⟩, ?_⟩
           | refine ⟨⟨rfl, Nat.le_of_ble_eq_true rfl⟩, ?_⟩
           | refine ⟨⟨rfl, rfl⟩, ?_⟩
           | refine ⟨⟨rfl, (by decide)⟩, ?_⟩
           | refine ⟨⟨rfl, ?_⟩, ?_⟩
           | refine ⟨Or.inr rfl, ?_⟩
           | refine ⟨Or.inl rfl, ?_⟩
           | refine ⟨⟨⟨rfl, rfl, rfl⟩, ?_⟩, ?_⟩
           | refine ⟨_, _, rfl, row_get _ _ arith, rfl, ?_⟩
           | refine ⟨Or.inr (by repeat (first | exact trivial | refine ⟨rfl, ?_⟩)), ?_⟩
           | refine ⟨(?_ : _ = ([] : List (List T))), ?_⟩
           | fail))
  have r0 := atI_range hb (i := 0) (by decide)
  have r1 := atI_range hb (i := 1) (by decide)
  have r2 := atI_range hb (i := 2) (by decide)
  have c0 := c_at a0 0
  have c1 := c_at a0 1
  have c2 := c_at a0 2
  generalize atI a0 0 = x0 at *
  generalize atI a0 1 = x1 at *
  generalize atI a0 2 = r at *
  have hkv : IntKind.i64.wrap (1 + IntKind.i64.wrap (x0 * 9)) = 1 + x0 * 9 := by rw [w64_ok (n := x0 * 9) (by omega) (by omega), w64_ok (by omega) (by omega)]
  have hk : inR (IntKind.i64.wrap (1 + IntKind.i64.wrap (x0 * 9))) 1 2147483646 = true := by rw [hkv, inR_iff]; omega
  obtain ⟨k, ek⟩ : ∃ k, IntKind.i64.wrap (1 + IntKind.i64.wrap (x0 * 9)) = k := ⟨_, rfl⟩
  rw [ek] at hk
  have hr : inR r 0 99998 = true := by rw [inR_iff]; omega
  have hv : IntKind.u8.wrap x1 = ((Vm.byteOf x1).toNat : Int) := u8_wrap _
  generalize Vm.byteOf x1 = v at *
  have bA0 : bigC ⟨2, 5, k, 7, [], 0, [], 0⟩ := by simp [bigC]
  have bB0 : bigC ⟨5, 2, k, 8, [], 0, [], 0⟩ := by simp [bigC]
  have bA := frA_big k
  have bB := frB_big k v
  have bC : bigC (frC k r v) := by simp [bigC, frC]
  have n1 := c_NewClient 2 5 k 7
  have n2 := c_NewClient 5 2 k 8
  rw [newA hk] at n1
  rw [newB hk] at n2
  have q1 := c_QueueMessage ⟨2, 5, k, 7, [], 0, [], 0⟩ [1, 2] bA0 (by simp) (by simp)
  have q2 := c_QueueMessage ⟨5, 2, k, 8, [], 0, [], 0⟩ [v] bB0 (by simp) (by simp)
  rw [(queA hk).1, (queA hk).2] at q1
  rw [(queB hk).1, (queB hk).2] at q2
  have w1 := c_ClientWrite (frA k) r 24 bA
  have w2 := c_ClientWrite (frB k v) r 24 bB
  rw [(wrA hk hr).1, (wrA hk hr).2.1, (wrA hk hr).2.2] at w1
  rw [(wrB hk hr).1, (wrB hk hr).2.1, (wrB hk hr).2.2] at w2
  have t1 : FnAt Try.prog 9 [.agg (DClient.e (frA k)), .one (I r), .one (I 24)] [.one (.s (I (mailRow k r 0 24))), .one (.s (I (mailRow k r 1 24)))] := by have h := c_RowsToRead (frA k) r 24; rw [(frA_dir k).1, (frA_dir k).2] at h; exact h
  have t2 : FnAt Try.prog 9 [.agg (DClient.e (frB k v)), .one (I r), .one (I 24)] [.one (.s (I (mailRow k r 1 24))), .one (.s (I (mailRow k r 0 24)))] := by have h := c_RowsToRead (frB k v) r 24; rw [(frB_dir k v).1, (frB_dir k v).2] at h; exact h
  have lX : (frX k).length ≤ 1099511627776 := by have := writeCell_len (frA k) r 24; rw [(wrA hk hr).2.2] at this; omega
  have lY : (frY k v).length ≤ 1099511627776 := by have := writeCell_len (frB k v) r 24; rw [(wrB hk hr).2.2] at this; omega
  have d1 := c_ClientRead (frA k) r (frX k) (frY k v) bA lX lY
  have d2 := c_ClientRead (frB k v) r (frY k v) (frX k) bB lY lX
  rw [(rdA hk hr).1, (rdA hk hr).2] at d1
  rw [(rdB hk hr).1, (rdB hk hr).2] at d2
  have s1 := c_sameBytes [1, 2] (by simp)
  have s2 := c_sameBytes [v] (by simp)
  have wm := c_WaitingMessages (frC k r v) rfl
  have iv := c_IsValidClient (frC k r v) bC
  rw [frC_ok hk hr] at iv
  clear hk hr
  refine fn_of Try.func3 rfl (by kernel_rfl) rfl ?_
  all_goals repeat' (first
    | (with_reducible rfl)
    | (conv => whnf
       first
         | refine ⟨_, c_big a0, ?_⟩
         | refine bcase_F (by rw [decide_eq_false_iff_not]; omega) ?_
         | refine bcase_F (bne_eq_false_iff_eq.2 rfl) ?_
         | refine ⟨_, c0, ?_⟩
         | refine ⟨_, c1, ?_⟩
         | refine ⟨_, c2, ?_⟩
         | (rw [ek]; refine ⟨_, n1, ?_⟩)
         | refine ⟨_, n2, ?_⟩
         | refine ⟨_, q1, ?_⟩
         | refine ⟨_, fn_args q2 (congrArg (fun n => [V.agg (DClient.e ⟨5, 2, k, 8, [], 0, [], 0⟩), V.one (T.lst [[T.int .u8 n]])]) hv), ?_⟩
         | refine ⟨_, w1, ?_⟩
         | refine ⟨_, w2, ?_⟩
         | refine ⟨_, t1, ?_⟩
         | refine ⟨_, t2, ?_⟩
         | refine ⟨_, d1, ?_⟩
         | refine ⟨_, d2, ?_⟩
         | refine ⟨_, s1, ?_⟩
         | refine ⟨_, fn_args s2 (congrArg (fun n => [V.one (L eU [v]), V.one (T.lst [[T.int .u8 n]])]) hv), ?_⟩
         | refine ⟨_, wm, ?_⟩
         | refine ⟨_, iv, ?_⟩
         | refine ⟨0, rfl, Nat.zero_lt_one, ?_⟩
         | refine ⟨_, (rfl : ((frD k r v).Inbox.map (eL eU))[0]? = some (eL eU [1, 2])), ?_⟩
         | refine ⟨_, (rfl : ((frC k r v).Inbox.map (eL eU))[0]? = some (eL eU [v])), ?_⟩
         | refine bcase_T (beq_self_eq_true (1 : Int)) ?_
         | refine bcase_T (beq_self_eq_true (0 : Int)) ?_
         | exact trivial
         | (with_reducible rfl)
         | exact (rfl : (0 : Int) = ((0 : Nat) : Int))
         | exact w64_nat arith
         | refine bcase_T (by first | with_reducible rfl | decide) ?_
         | refine bcase_F (by first | with_reducible rfl | decide) ?_
         | refine bcase_dec (fun _ => ?_) (fun _ => ?_)
         | refine bcase_not ?_
         | refine bcase_intro (fun _ => ?_) (fun _ => ?_)
         | refine ⟨(by with_reducible rfl), ?_⟩
         | refine ⟨congrArg vi ?_, ?_⟩
         | refine ⟨congrArg vb ?_, ?_⟩
         | refine ⟨rfl, ?_⟩
         | refine ⟨(by kernel_rfl : drawOK _ = true), ?_⟩
         | refine Or.inl ?_
         | refine ⟨⟨congrArg (T.int _) ?_, rfl⟩, ?_⟩
         | refine ⟨⟨congrArg T.bool ?_, rfl⟩, ?_⟩
         | refine ⟨⟨rfl, Nat.le_of_ble_eq_true rfl⟩, ?_⟩
         | refine ⟨⟨rfl, rfl⟩, ?_⟩
         | refine ⟨⟨rfl, (by decide)⟩, ?_⟩
         | refine ⟨⟨rfl, ?_⟩, ?_⟩
         | refine ⟨Or.inr rfl, ?_⟩
         | refine ⟨Or.inl rfl, ?_⟩
         | refine ⟨⟨⟨rfl, rfl, rfl⟩, ?_⟩, ?_⟩
         | refine ⟨_, _, rfl, row_get _ _ arith, rfl, ?_⟩
         | refine ⟨Or.inr (by repeat (first | exact trivial | refine ⟨rfl, ?_⟩)), ?_⟩
         | refine ⟨(?_ : _ = ([] : List (List T))), ?_⟩
         | fail))
  all_goals first
    | rfl
    | exact v
end Go.Proofs.Ytpelgajmebgbaaa
