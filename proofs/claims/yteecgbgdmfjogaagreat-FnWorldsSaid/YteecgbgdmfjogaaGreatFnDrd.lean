/-
  Contracts: bytes and databases that the cursor draws.
  Contracts: a new cursor; a round to be added, as it is drawn.
  Conditions: none.
-/
import Derived.Test.YteecgbgdmfjogaaGreatFnDr
import Derived.Test.YteecgbgdmfjogaaGreatFnS2
import Derived.Test.YteecgbgdmfjogaaGreatFnG
import Derived.Test.YteecgbgdmfjogaaGreatFnNw
namespace Go.Proofs.YteecgbgdmfjogaaGreat
set_option maxHeartbeats 4000000
set_option maxRecDepth 20000
open Go.Vm Go.RowKit
attribute [local irreducible] FnAt MutAt InAt JAt CurAt FnE CurE RegAt
def cuI (c : Cu) : Nat → Cu
  | 0 => c
  | i + 1 => cuN (cuI c i)
theorem cuI_ok {c : Cu} (h : c.ok) : ∀ i, (cuI c i).ok
  | 0 => h
  | i + 1 => cuN_ok (cuI_ok h i)
def byV (c : Cu) (n : Nat) : List UInt8 := (List.range n).map fun j => Vm.byteOf (cuV (cuI c j))
theorem byV_len (c : Cu) (n : Nat) : (byV c n).length = n := by simp [byV]
theorem byV_succ (c : Cu) (n : Nat) : byV c (n + 1) = byV c n ++ [Vm.byteOf (cuV (cuI c n))] := by simp [byV, List.range_succ]
theorem c_l1Bytes (c : Cu) (n : Nat) (h : c.ok) (hn : n ≤ 1048576) : CurAt Tryz.prog 50 (Cu.e c) (Cu.e (cuI c n)) [.one (I n)] [.one (.l 1 ((byV c n).map eU))] := by
  have hl := byV_len c
  refine cur_of Tryz.func50 rfl (by kernel_rfl) rfl ?_
  all_goals repeat' (first | (with_reducible rfl) | ((conv => whnf); first | exact trivial | (with_reducible rfl) | exact (rfl : (0 : Int) = ((0 : Nat) : Int)) | exact w64_nat arith | refine bcase_T (by first | with_reducible rfl | decide) ?_ | refine bcase_F (by first | with_reducible rfl | decide) ?_ | refine bcase_dec (fun _ => ?_) (fun _ => ?_) | refine bcase_not ?_ | refine bcase_intro (fun _ => ?_) (fun _ => ?_) | refine ⟨(by with_reducible rfl), ?_⟩ | refine ⟨congrArg vi ?_, ?_⟩ | refine ⟨congrArg vb ?_, ?_⟩ | refine ⟨rfl, ?_⟩ | refine ⟨(by kernel_rfl : drawOK _ = true), ?_⟩ | refine Or.inl ?_ | refine ⟨⟨congrArg (T.int _) ?_, rfl⟩, ?_⟩ | refine ⟨⟨congrArg T.bool ?_, rfl⟩, ?_⟩ | refine ⟨⟨rfl, Nat.le_of_ble_eq_true rfl⟩, ?_⟩ | refine ⟨⟨rfl, rfl⟩, ?_⟩ | refine ⟨⟨rfl, (by decide)⟩, ?_⟩ | refine ⟨⟨rfl, ?_⟩, ?_⟩ | refine ⟨Or.inr rfl, ?_⟩ | refine ⟨Or.inl rfl, ?_⟩ | refine ⟨⟨⟨rfl, rfl, rfl⟩, ?_⟩, ?_⟩ | refine ⟨_, _, rfl, row_get _ _ arith, rfl, ?_⟩ | refine ⟨Or.inr (by repeat (first | exact trivial | refine ⟨rfl, ?_⟩)), ?_⟩ | refine ⟨(?_ : _ = ([] : List (List T))), ?_⟩ | fail))
  conv => whnf
  refine ⟨Nat, fun i => i ≤ n, fun i => ⟨[(0, .pin (.ptr 0 0)), (1, vi n), (5, .c (.ref 1)), (6, vi i)], [(0, .box [.anc (L eU (cuI c i).b), .t (I (cuI c i).i), .t (I (cuI c i).h)]), (1, .row true true 1 ((byV c i).map eU))], 2⟩, fun i => n - i, 0, Nat.zero_le _, sub_at [(0, 0), (1, 5)] rfl rfl rfl ?_ ?_, fun i (hi : i ≤ n) => ?_⟩
  all_goals repeat' (first | (with_reducible rfl) | ((conv => whnf); first | (refine bcase_dec (fun _ => ?_) (fun _ => ?_); rotate_left; (obtain rfl : n = i := (by omega)); rotate_right) | (refine Or.inr ⟨rfl, Or.inl ?_⟩; (conv => whnf); refine inAt_cur (c_l1Byte (cuI c i) (cuI_ok h i)) (by rfl) (by rfl) (by rfl) ?_) | (have h8 := hl i; refine ⟨true, fun _ => (by simp [isScal]), ⟨rfl, rfl⟩, ⟨bnd, bnd⟩, ?_⟩) | refine ⟨i + 1, ⟨arith, arith⟩, sub_at [(0, 0), (1, 5)] rfl rfl rfl ?_ ?_⟩ | exact trivial | (with_reducible rfl) | exact (rfl : (0 : Int) = ((0 : Nat) : Int)) | exact w64_nat arith | refine bcase_T (by first | with_reducible rfl | decide) ?_ | refine bcase_F (by first | with_reducible rfl | decide) ?_ | refine bcase_dec (fun _ => ?_) (fun _ => ?_) | refine bcase_not ?_ | refine bcase_intro (fun _ => ?_) (fun _ => ?_) | refine ⟨(by with_reducible rfl), ?_⟩ | refine ⟨congrArg vi ?_, ?_⟩ | refine ⟨congrArg vb ?_, ?_⟩ | refine ⟨rfl, ?_⟩ | refine ⟨(by kernel_rfl : drawOK _ = true), ?_⟩ | refine Or.inl ?_ | refine ⟨⟨congrArg (T.int _) ?_, rfl⟩, ?_⟩ | refine ⟨⟨congrArg T.bool ?_, rfl⟩, ?_⟩ | refine ⟨⟨rfl, Nat.le_of_ble_eq_true rfl⟩, ?_⟩ | refine ⟨⟨rfl, rfl⟩, ?_⟩ | refine ⟨⟨rfl, (by decide)⟩, ?_⟩ | refine ⟨⟨rfl, ?_⟩, ?_⟩ | refine ⟨Or.inr rfl, ?_⟩ | refine ⟨Or.inl rfl, ?_⟩ | refine ⟨⟨⟨rfl, rfl, rfl⟩, ?_⟩, ?_⟩ | refine ⟨_, _, rfl, row_get _ _ arith, rfl, ?_⟩ | refine ⟨Or.inr (by repeat (first | exact trivial | refine ⟨rfl, ?_⟩)), ?_⟩ | refine ⟨(?_ : _ = ([] : List (List T))), ?_⟩ | fail))
  all_goals first
    | rfl
    | (rw [byV_succ, List.map_append]; show _ = _ ++ [[U8 _]]; rw [← u8_wrap]; done)
theorem cuI_add (c : Cu) (m : Nat) : ∀ n, cuI (cuI c m) n = cuI c (m + n)
  | 0 => rfl
  | n + 1 => by show cuN _ = cuN (cuI c (m + n)); rw [cuI_add c m n]
def dbR (c : Cu) (n : Nat) : List (List UInt8) := (List.range n).map fun j => byV (cuI c (24 * j)) 24
theorem dbR_len (c : Cu) (n : Nat) : (dbR c n).length = n := by simp [dbR]
theorem dbR_succ (c : Cu) (n : Nat) : dbR c (n + 1) = dbR c n ++ [byV (cuI c (24 * n)) 24] := by simp [dbR, List.range_succ]
theorem c_l8Database (c : Cu) (n : Nat) (h : c.ok) (hn : n ≤ 1024) : CurAt Tryz.prog 121 (Cu.e c) (Cu.e (cuI c (24 * n))) [.one (I n)] [.agg (DDatabase.r ⟨dbR c n⟩)] := by
  have hl := dbR_len c
  have hk := fun i => cuI_add c (24 * i) 24
  refine cur_of Tryz.func121 rfl (by kernel_rfl) rfl ?_
  all_goals repeat' (first | (with_reducible rfl) | ((conv => whnf); first | exact trivial | (with_reducible rfl) | exact (rfl : (0 : Int) = ((0 : Nat) : Int)) | exact w64_nat arith | refine bcase_T (by first | with_reducible rfl | decide) ?_ | refine bcase_F (by first | with_reducible rfl | decide) ?_ | refine bcase_dec (fun _ => ?_) (fun _ => ?_) | refine bcase_not ?_ | refine bcase_intro (fun _ => ?_) (fun _ => ?_) | refine ⟨(by with_reducible rfl), ?_⟩ | refine ⟨congrArg vi ?_, ?_⟩ | refine ⟨congrArg vb ?_, ?_⟩ | refine ⟨rfl, ?_⟩ | refine ⟨(by kernel_rfl : drawOK _ = true), ?_⟩ | refine Or.inl ?_ | refine ⟨⟨congrArg (T.int _) ?_, rfl⟩, ?_⟩ | refine ⟨⟨congrArg T.bool ?_, rfl⟩, ?_⟩ | refine ⟨⟨rfl, Nat.le_of_ble_eq_true rfl⟩, ?_⟩ | refine ⟨⟨rfl, rfl⟩, ?_⟩ | refine ⟨⟨rfl, (by decide)⟩, ?_⟩ | refine ⟨⟨rfl, ?_⟩, ?_⟩ | refine ⟨Or.inr rfl, ?_⟩ | refine ⟨Or.inl rfl, ?_⟩ | refine ⟨⟨⟨rfl, rfl, rfl⟩, ?_⟩, ?_⟩ | refine ⟨_, _, rfl, row_get _ _ arith, rfl, ?_⟩ | refine ⟨Or.inr (by repeat (first | exact trivial | refine ⟨rfl, ?_⟩)), ?_⟩ | refine ⟨(?_ : _ = ([] : List (List T))), ?_⟩ | fail))
  conv => whnf
  refine ⟨Nat, fun i => i ≤ n, fun i => ⟨[(0, .pin (.ptr 0 0)), (1, vi n), (4, .ptr 1 0), (5, .ptr 2 0), (6, vi i)], [(0, .box [.anc (L eU (cuI c (24 * i)).b), .t (I (cuI c (24 * i)).i), .t (I (cuI c (24 * i)).h)]), (1, .box [.nil]), (2, .box [.ref 3]), (3, .row true true 1 ((dbR c i).map (eL eU)))], 4⟩, fun i => n - i, 0, Nat.zero_le _, sub_at2 [(0, 0, 0), (1, 4, 0), (2, 5, 0), (3, 5, 1)] rfl rfl rfl ?_ ?_, fun i (hi : i ≤ n) => ?_⟩
  all_goals repeat' (first | (with_reducible rfl) | ((conv => whnf); first | (refine bcase_dec (fun _ => ?_) (fun _ => ?_); rotate_left; (obtain rfl : n = i := (by omega)); rotate_right) | refine Or.inr ⟨(by kernel_rfl), 0, ⟨_, rfl⟩, ?_⟩ | (refine Or.inl ?_; (conv => whnf); refine ⟨_, _, c_l1Bytes (cuI c (24 * i)) 24 (cuI_ok h _) (by omega), ?_⟩) | (have h8 := hl i; refine ⟨⟨bnd, bnd⟩, ?_⟩) | refine ⟨i + 1, ⟨arith, arith⟩, sub_at2 [(0, 0, 0), (1, 4, 0), (2, 5, 0), (3, 5, 1)] rfl rfl rfl ?_ ?_⟩ | exact trivial | (with_reducible rfl) | exact (rfl : (0 : Int) = ((0 : Nat) : Int)) | exact w64_nat arith | refine bcase_T (by first | with_reducible rfl | decide) ?_ | refine bcase_F (by first | with_reducible rfl | decide) ?_ | refine bcase_dec (fun _ => ?_) (fun _ => ?_) | refine bcase_not ?_ | refine bcase_intro (fun _ => ?_) (fun _ => ?_) | refine ⟨(by with_reducible rfl), ?_⟩ | refine ⟨congrArg vi ?_, ?_⟩ | refine ⟨congrArg vb ?_, ?_⟩ | refine ⟨rfl, ?_⟩ | refine ⟨(by kernel_rfl : drawOK _ = true), ?_⟩ | refine Or.inl ?_ | refine ⟨⟨congrArg (T.int _) ?_, rfl⟩, ?_⟩ | refine ⟨⟨congrArg T.bool ?_, rfl⟩, ?_⟩ | refine ⟨⟨rfl, Nat.le_of_ble_eq_true rfl⟩, ?_⟩ | refine ⟨⟨rfl, rfl⟩, ?_⟩ | refine ⟨⟨rfl, (by decide)⟩, ?_⟩ | refine ⟨⟨rfl, ?_⟩, ?_⟩ | refine ⟨Or.inr rfl, ?_⟩ | refine ⟨Or.inl rfl, ?_⟩ | refine ⟨⟨⟨rfl, rfl, rfl⟩, ?_⟩, ?_⟩ | refine ⟨_, _, rfl, row_get _ _ arith, rfl, ?_⟩ | refine ⟨Or.inr (by repeat (first | exact trivial | refine ⟨rfl, ?_⟩)), ?_⟩ | refine ⟨(?_ : _ = ([] : List (List T))), ?_⟩ | fail))
  all_goals first
    | (rw [dbR_succ, List.map_append]; rfl)
theorem c_l1BytesI (c : Cu) (r : Int) (n : Nat) (h : c.ok) (hr : r = (n : Int)) (hn : n ≤ 1048576) : CurAt Tryz.prog 50 (Cu.e c) (Cu.e (cuI c n)) [.one (I r)] [.one (.l 1 ((byV c n).map eU))] := by
  subst hr; exact c_l1Bytes c n h hn
theorem c_l8DatabaseI (c : Cu) (r : Int) (n : Nat) (h : c.ok) (hr : r = (n : Int)) (hn : n ≤ 1024) : CurAt Tryz.prog 121 (Cu.e c) (Cu.e (cuI c (24 * n))) [.one (I r)] [.agg (DDatabase.r ⟨dbR c n⟩)] := by
  subst hr; exact c_l8Database c n h hn
def beT (c : Cu) (n : Nat) : Nat := (beV c n).toNat
theorem beT_eq (c : Cu) (n : Nat) (h : 0 < n) : beV c n = (beT c n : Int) ∧ beT c n < n := by
  have := beV_lt (c := c) (n := (n : Int)) (by omega)
  unfold beT
  omega
/-- The cursor after the rows of a database of any shape. -/
def anC1 (c : Cu) : Cu := cuI (beN c 7) (24 * beT c 7)
def anC2 (c : Cu) : Cu := beN (anC1 c) 10
def anN (c : Cu) : Cu := if beV (anC1 c) 10 = 0 then cuI (beN (anC2 c) 3) (23 + beT (anC2 c) 3) else anC2 c
def anV (c : Cu) : DDatabase := if beV (anC1 c) 10 = 0 then ⟨dbR (beN c 7) (beT c 7) ++ [byV (beN (anC2 c) 3) (23 + beT (anC2 c) 3)]⟩ else if beV (anC1 c) 10 = 1 then newDb 64 else ⟨dbR (beN c 7) (beT c 7)⟩
theorem anC1_ok {c : Cu} (h : c.ok) : (anC1 c).ok := cuI_ok (beN_ok h) _
theorem anC2_ok {c : Cu} (h : c.ok) : (anC2 c).ok := beN_ok (anC1_ok h)
theorem anN_ok {c : Cu} (h : c.ok) : (anN c).ok := by
  unfold anN
  split
  · exact cuI_ok (beN_ok (anC2_ok h)) _
  · exact anC2_ok h
theorem anV_big (c : Cu) : bigB (anV c).Rows := by
  have hb := (beT_eq c 7 (by omega)).2
  have hb3 := (beT_eq (anC2 c) 3 (by omega)).2
  have key : ∀ x ∈ dbR (beN c 7) (beT c 7), x.length = 24 := by
    intro x hx
    simp only [dbR, List.mem_map] at hx
    obtain ⟨j, _, rfl⟩ := hx
    exact byV_len _ _
  unfold anV
  split
  · refine ⟨by simp [dbR_len]; omega, fun x hx => ?_⟩
    rcases List.mem_append.1 hx with hx | hx
    · have := key x hx; omega
    · rw [List.mem_singleton.1 hx, byV_len]; omega
  · split
    · exact newDb_big 64
    · exact ⟨by simp [dbR_len]; omega, fun x hx => by have := key x hx; omega⟩
theorem c_l8Any (c : Cu) (h : c.ok) : CurAt Tryz.prog 104 (Cu.e c) (Cu.e (anN c)) [] [.agg (DDatabase.r (anV c))] := by
  have h7 := beT_eq c 7 (by omega)
  have h3 := beT_eq (anC2 c) 3 (by omega)
  have h3w : IntKind.i64.wrap (23 + beV (anC2 c) 3) = ((23 + beT (anC2 c) 3 : Nat) : Int) := by
    have := h3.1
    rw [show ((3 : Nat) : Int) = (3 : Int) from rfl] at this
    rw [this, w64_ok (by omega) (by omega)]
    omega
  by_cases n1 : beV (anC1 c) 10 = 0
  · have e1 : anN c = cuI (beN (anC2 c) 3) (23 + beT (anC2 c) 3) := if_pos n1
    have e2 : anV c = ⟨dbR (beN c 7) (beT c 7) ++ [byV (beN (anC2 c) 3) (23 + beT (anC2 c) 3)]⟩ := if_pos n1
    rw [e1, e2]
    refine cur_of Tryz.func104 rfl (by kernel_rfl) rfl ?_
    all_goals repeat' (first | (with_reducible rfl) | ((conv => whnf); first | (refine Or.inr ⟨rfl, Or.inl ?_⟩; (conv => whnf); refine inAt_cur (c_l1Below c 7 h) (by rfl) (by rfl) (by rfl) ?_) | (refine Or.inr ⟨rfl, Or.inl ?_⟩; (conv => whnf); refine inAt_cur (c_l8DatabaseI (beN c 7) _ (beT c 7) (beN_ok h) h7.1 (by omega)) (by rfl) (by rfl) (by rfl) ?_) | (refine Or.inr ⟨rfl, Or.inl ?_⟩; (conv => whnf); refine inAt_cur (c_l1Below (anC1 c) 10 (anC1_ok h)) (by rfl) (by rfl) (by rfl) ?_) | refine bcase_T (by rw [n1]; rfl) ?_ | refine Or.inr ⟨(by kernel_rfl), 0, ⟨_, rfl⟩, ?_⟩ | (refine Or.inl ?_; (conv => whnf); first | refine ⟨_, _, c_l1Below (anC2 c) 3 (anC2_ok h), ?_⟩ | refine ⟨_, _, c_l1BytesI (beN (anC2 c) 3) _ (23 + beT (anC2 c) 3) (beN_ok (anC2_ok h)) h3w (by omega), ?_⟩) | (have h8 := dbR_len (beN c 7) (beT c 7); have h9 := h7.2; refine ⟨⟨bnd, bnd⟩, ?_⟩) | exact trivial | (with_reducible rfl) | exact (rfl : (0 : Int) = ((0 : Nat) : Int)) | exact w64_nat arith | refine bcase_T (by first | with_reducible rfl | decide) ?_ | refine bcase_F (by first | with_reducible rfl | decide) ?_ | refine bcase_dec (fun _ => ?_) (fun _ => ?_) | refine bcase_not ?_ | refine bcase_intro (fun _ => ?_) (fun _ => ?_) | refine ⟨(by with_reducible rfl), ?_⟩ | refine ⟨congrArg vi ?_, ?_⟩ | refine ⟨congrArg vb ?_, ?_⟩ | refine ⟨rfl, ?_⟩ | refine ⟨(by kernel_rfl : drawOK _ = true), ?_⟩ | refine Or.inl ?_ | refine ⟨⟨congrArg (T.int _) ?_, rfl⟩, ?_⟩ | refine ⟨⟨congrArg T.bool ?_, rfl⟩, ?_⟩ | refine ⟨⟨rfl, Nat.le_of_ble_eq_true rfl⟩, ?_⟩ | refine ⟨⟨rfl, rfl⟩, ?_⟩ | refine ⟨⟨rfl, (by decide)⟩, ?_⟩ | refine ⟨⟨rfl, ?_⟩, ?_⟩ | refine ⟨Or.inr rfl, ?_⟩ | refine ⟨Or.inl rfl, ?_⟩ | refine ⟨⟨⟨rfl, rfl, rfl⟩, ?_⟩, ?_⟩ | refine ⟨_, _, rfl, row_get _ _ arith, rfl, ?_⟩ | refine ⟨Or.inr (by repeat (first | exact trivial | refine ⟨rfl, ?_⟩)), ?_⟩ | refine ⟨(?_ : _ = ([] : List (List T))), ?_⟩ | fail))
    all_goals first
      | (rw [List.map_append]; rfl)
  · by_cases n2 : beV (anC1 c) 10 = 1
    · have e1 : anN c = anC2 c := if_neg n1
      have e2 : anV c = newDb 64 := by unfold anV; rw [if_neg n1, if_pos n2]
      rw [e1, e2]
      refine cur_of Tryz.func104 rfl (by kernel_rfl) rfl ?_
      all_goals repeat' (first | (with_reducible rfl) | ((conv => whnf); first | (refine Or.inr ⟨rfl, Or.inl ?_⟩; (conv => whnf); refine inAt_cur (c_l1Below c 7 h) (by rfl) (by rfl) (by rfl) ?_) | (refine Or.inr ⟨rfl, Or.inl ?_⟩; (conv => whnf); refine inAt_cur (c_l8DatabaseI (beN c 7) _ (beT c 7) (beN_ok h) h7.1 (by omega)) (by rfl) (by rfl) (by rfl) ?_) | (refine Or.inr ⟨rfl, Or.inl ?_⟩; (conv => whnf); refine inAt_cur (c_l1Below (anC1 c) 10 (anC1_ok h)) (by rfl) (by rfl) (by rfl) ?_) | refine bcase_F (by rw [n2]; rfl) ?_ | refine bcase_T (by rw [n2]; rfl) ?_ | refine Or.inl ?_ | refine ⟨_, c_sNewDatabase 64, ?_⟩ | exact trivial | (with_reducible rfl) | exact (rfl : (0 : Int) = ((0 : Nat) : Int)) | exact w64_nat arith | refine bcase_T (by first | with_reducible rfl | decide) ?_ | refine bcase_F (by first | with_reducible rfl | decide) ?_ | refine bcase_dec (fun _ => ?_) (fun _ => ?_) | refine bcase_not ?_ | refine bcase_intro (fun _ => ?_) (fun _ => ?_) | refine ⟨(by with_reducible rfl), ?_⟩ | refine ⟨congrArg vi ?_, ?_⟩ | refine ⟨congrArg vb ?_, ?_⟩ | refine ⟨rfl, ?_⟩ | refine ⟨(by kernel_rfl : drawOK _ = true), ?_⟩ | refine Or.inl ?_ | refine ⟨⟨congrArg (T.int _) ?_, rfl⟩, ?_⟩ | refine ⟨⟨congrArg T.bool ?_, rfl⟩, ?_⟩ | refine ⟨⟨rfl, Nat.le_of_ble_eq_true rfl⟩, ?_⟩ | refine ⟨⟨rfl, rfl⟩, ?_⟩ | refine ⟨⟨rfl, (by decide)⟩, ?_⟩ | refine ⟨⟨rfl, ?_⟩, ?_⟩ | refine ⟨Or.inr rfl, ?_⟩ | refine ⟨Or.inl rfl, ?_⟩ | refine ⟨⟨⟨rfl, rfl, rfl⟩, ?_⟩, ?_⟩ | refine ⟨_, _, rfl, row_get _ _ arith, rfl, ?_⟩ | refine ⟨Or.inr (by repeat (first | exact trivial | refine ⟨rfl, ?_⟩)), ?_⟩ | refine ⟨(?_ : _ = ([] : List (List T))), ?_⟩ | fail))
      all_goals rfl
    · have e1 : anN c = anC2 c := if_neg n1
      have e2 : anV c = ⟨dbR (beN c 7) (beT c 7)⟩ := by unfold anV; rw [if_neg n1, if_neg n2]
      rw [e1, e2]
      refine cur_of Tryz.func104 rfl (by kernel_rfl) rfl ?_
      all_goals repeat' (first | (with_reducible rfl) | ((conv => whnf); first | (refine Or.inr ⟨rfl, Or.inl ?_⟩; (conv => whnf); refine inAt_cur (c_l1Below c 7 h) (by rfl) (by rfl) (by rfl) ?_) | (refine Or.inr ⟨rfl, Or.inl ?_⟩; (conv => whnf); refine inAt_cur (c_l8DatabaseI (beN c 7) _ (beT c 7) (beN_ok h) h7.1 (by omega)) (by rfl) (by rfl) (by rfl) ?_) | (refine Or.inr ⟨rfl, Or.inl ?_⟩; (conv => whnf); refine inAt_cur (c_l1Below (anC1 c) 10 (anC1_ok h)) (by rfl) (by rfl) (by rfl) ?_) | refine bcase_F (by first | exact beq_eq_false_iff_ne.2 n1 | exact beq_eq_false_iff_ne.2 n2) ?_ | exact trivial | (with_reducible rfl) | exact (rfl : (0 : Int) = ((0 : Nat) : Int)) | exact w64_nat arith | refine bcase_T (by first | with_reducible rfl | decide) ?_ | refine bcase_F (by first | with_reducible rfl | decide) ?_ | refine bcase_dec (fun _ => ?_) (fun _ => ?_) | refine bcase_not ?_ | refine bcase_intro (fun _ => ?_) (fun _ => ?_) | refine ⟨(by with_reducible rfl), ?_⟩ | refine ⟨congrArg vi ?_, ?_⟩ | refine ⟨congrArg vb ?_, ?_⟩ | refine ⟨rfl, ?_⟩ | refine ⟨(by kernel_rfl : drawOK _ = true), ?_⟩ | refine Or.inl ?_ | refine ⟨⟨congrArg (T.int _) ?_, rfl⟩, ?_⟩ | refine ⟨⟨congrArg T.bool ?_, rfl⟩, ?_⟩ | refine ⟨⟨rfl, Nat.le_of_ble_eq_true rfl⟩, ?_⟩ | refine ⟨⟨rfl, rfl⟩, ?_⟩ | refine ⟨⟨rfl, (by decide)⟩, ?_⟩ | refine ⟨⟨rfl, ?_⟩, ?_⟩ | refine ⟨Or.inr rfl, ?_⟩ | refine ⟨Or.inl rfl, ?_⟩ | refine ⟨⟨⟨rfl, rfl, rfl⟩, ?_⟩, ?_⟩ | refine ⟨_, _, rfl, row_get _ _ arith, rfl, ?_⟩ | refine ⟨Or.inr (by repeat (first | exact trivial | refine ⟨rfl, ?_⟩)), ?_⟩ | refine ⟨(?_ : _ = ([] : List (List T))), ?_⟩ | fail))
      all_goals rfl
end Go.Proofs.YteecgbgdmfjogaaGreat

namespace Go.Proofs.YteecgbgdmfjogaaGreat
set_option maxHeartbeats 4000000
set_option maxRecDepth 20000
open Go.Vm Go.RowKit
attribute [local irreducible] FnAt MutAt InAt JAt CurAt FnE CurE RegAt
def nwH (b : List UInt8) : Nat → Int
  | 0 => IntKind.i64.wrap (193017 + b.length)
  | i + 1 => bits .and .i64 (IntKind.i64.wrap (IntKind.i64.wrap (IntKind.i64.wrap (nwH b i * 137) + IntKind.i64.wrap ((b[i]?.getD 0).toNat : Int)) + 11)) 1073741823
def nwC (b : List UInt8) : Cu := ⟨b, 0, nwH b (min b.length 4000)⟩
theorem nwH_succ (b : List UInt8) {i : Nat} (h : i < b.length) : nwH b (i + 1) = bits .and .i64 (IntKind.i64.wrap (IntKind.i64.wrap (IntKind.i64.wrap (nwH b i * 137) + IntKind.i64.wrap (b[i].toNat : Int)) + 11)) 1073741823 := by
  simp only [nwH, List.getElem?_eq_getElem h, Option.getD_some]
theorem c_l1New (b : List UInt8) (hb : b.length ≤ 1048576) : NewAt Tryz.prog 17 [.one (L eU b)] (Cu.e (nwC b)) := by
  have hm : (b.map eU).length = b.length := List.length_map _
  refine new_of_ev tys_ok (by kernel_rfl) Tryz.func17 rfl (by kernel_rfl) rfl ?_
  all_goals repeat' (first | (with_reducible rfl) | ((conv => whnf); first | exact trivial | (with_reducible rfl) | exact (rfl : (0 : Int) = ((0 : Nat) : Int)) | exact w64_nat arith | refine bcase_T (by first | with_reducible rfl | decide) ?_ | refine bcase_F (by first | with_reducible rfl | decide) ?_ | refine bcase_dec (fun _ => ?_) (fun _ => ?_) | refine bcase_not ?_ | refine bcase_intro (fun _ => ?_) (fun _ => ?_) | refine ⟨(by with_reducible rfl), ?_⟩ | refine ⟨congrArg vi ?_, ?_⟩ | refine ⟨congrArg vb ?_, ?_⟩ | refine ⟨rfl, ?_⟩ | refine ⟨(by kernel_rfl : drawOK _ = true), ?_⟩ | refine Or.inl ?_ | refine ⟨⟨congrArg (T.int _) ?_, rfl⟩, ?_⟩ | refine ⟨⟨congrArg T.bool ?_, rfl⟩, ?_⟩ | refine ⟨⟨rfl, Nat.le_of_ble_eq_true rfl⟩, ?_⟩ | refine ⟨⟨rfl, rfl⟩, ?_⟩ | refine ⟨⟨rfl, (by decide)⟩, ?_⟩ | refine ⟨⟨rfl, ?_⟩, ?_⟩ | refine ⟨Or.inr rfl, ?_⟩ | refine ⟨Or.inl rfl, ?_⟩ | refine ⟨⟨⟨rfl, rfl, rfl⟩, ?_⟩, ?_⟩ | refine ⟨_, _, rfl, row_get _ _ arith, rfl, ?_⟩ | refine ⟨Or.inr (by repeat (first | exact trivial | refine ⟨rfl, ?_⟩)), ?_⟩ | refine ⟨(?_ : _ = ([] : List (List T))), ?_⟩ | fail))
  conv => whnf
  refine ⟨Nat, fun i => i ≤ b.length ∧ i ≤ 4000, fun i => ⟨[(0, .c (.anc (L eU b))), (3, vi (nwH b i)), (4, vi i)], [], 0⟩, fun i => b.length - i, 0, ⟨Nat.zero_le _, Nat.zero_le _⟩, ⟨[], rfl, rfl, rfl, ?_, ?_⟩, fun i hi => ?_⟩
  all_goals repeat' (first | (with_reducible rfl) | ((conv => whnf); first | exact trivial | (with_reducible rfl) | exact (rfl : (0 : Int) = ((0 : Nat) : Int)) | exact w64_nat arith | refine bcase_T (by first | with_reducible rfl | decide) ?_ | refine bcase_F (by first | with_reducible rfl | decide) ?_ | refine bcase_dec (fun _ => ?_) (fun _ => ?_) | refine bcase_not ?_ | refine bcase_intro (fun _ => ?_) (fun _ => ?_) | refine ⟨(by with_reducible rfl), ?_⟩ | refine ⟨congrArg vi ?_, ?_⟩ | refine ⟨congrArg vb ?_, ?_⟩ | refine ⟨rfl, ?_⟩ | refine ⟨(by kernel_rfl : drawOK _ = true), ?_⟩ | refine Or.inl ?_ | refine ⟨⟨congrArg (T.int _) ?_, rfl⟩, ?_⟩ | refine ⟨⟨congrArg T.bool ?_, rfl⟩, ?_⟩ | refine ⟨⟨rfl, Nat.le_of_ble_eq_true rfl⟩, ?_⟩ | refine ⟨⟨rfl, rfl⟩, ?_⟩ | refine ⟨⟨rfl, (by decide)⟩, ?_⟩ | refine ⟨⟨rfl, ?_⟩, ?_⟩ | refine ⟨Or.inr rfl, ?_⟩ | refine ⟨Or.inl rfl, ?_⟩ | refine ⟨⟨⟨rfl, rfl, rfl⟩, ?_⟩, ?_⟩ | refine ⟨_, _, rfl, row_get _ _ arith, rfl, ?_⟩ | refine ⟨Or.inr (by repeat (first | exact trivial | refine ⟨rfl, ?_⟩)), ?_⟩ | refine ⟨(?_ : _ = ([] : List (List T))), ?_⟩ | refine ⟨i, _, rfl, row_get _ _ (lt_map (by assumption)), rfl, ?_⟩ | refine ⟨i + 1, ⟨⟨arith, arith⟩, arith⟩, ⟨[], rfl, rfl, rfl, ?_, ?_⟩⟩ | fail))
  all_goals first
    | (rw [hm]; rfl)
    | (rw [nwH_succ b (lt_map (by assumption))]; done)
    | (have e : i = min b.length 4000 := (by have h1 := hi.1; have h2 := hi.2; simp only [List.length_map] at *; omega); show nwH b i = nwH b (min b.length 4000); rw [← e]; done)
end Go.Proofs.YteecgbgdmfjogaaGreat
