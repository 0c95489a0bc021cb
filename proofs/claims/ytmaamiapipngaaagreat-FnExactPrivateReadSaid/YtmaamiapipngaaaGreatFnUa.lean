/-
  Contracts: selections of one row, and their sum.
  Conditions: none.
-/
import Derived.Test.YtmaamiapipngaaaGreatFnAn
import Derived.Test.YtmaamiapipngaaaGreatFnTs
namespace Go.Proofs.YtmaamiapipngaaaGreat
set_option maxHeartbeats 4000000
set_option maxRecDepth 20000
open Go.Vm Go.RowKit
attribute [local irreducible] FnAt MutAt InAt JAt CurAt FnE CurE RegAt
attribute [local irreducible] bits
def unitSel (n i : Int) : List Int := if inR n 1 64 && inR i 0 (n - 1) then (List.replicate n.toNat 0).set i.toNat 1 else []
theorem unitSel_len (n i : Int) : (unitSel n i).length ≤ 64 := by
  unfold unitSel
  split
  · next h =>
    rw [Bool.and_eq_true, inR_iff] at h
    rw [List.length_set, List.length_replicate]; omega
  · simp
theorem zeros_set (n : Nat) (i : Nat) : (List.replicate n [T.int .i64 0]).set i [T.int .i64 1] = ((List.replicate n (0 : Int)).set i 1).map eI := by
  rw [List.map_set, List.map_replicate]; rfl
theorem c_UnitSelection (n i : Int) : FnAt Tryz.prog 64 [.one (I n), .one (I i)] [.one (.l 1 ((unitSel n i).map eI))] := by
  cases h1 : inR n 1 64 with
  | false =>
    have e : unitSel n i = [] := by unfold unitSel; rw [h1]; rfl
    rw [e]
    refine fn_of Tryz.func64 rfl (by kernel_rfl) rfl ?_
    all_goals repeat' (first | (with_reducible rfl) | ((conv => whnf); first | refine ⟨_, c_InRange n 1 64, ?_⟩ | refine bcase_F (by rw [h1]; rfl) ?_ | refine bcase_T (by rw [h1]; rfl) ?_ | exact trivial | (with_reducible rfl) | exact (rfl : (0 : Int) = ((0 : Nat) : Int)) | exact w64_nat arith | refine bcase_T (by first | with_reducible rfl | decide) ?_ | refine bcase_F (by first | with_reducible rfl | decide) ?_ | refine bcase_dec (fun _ => ?_) (fun _ => ?_) | refine bcase_not ?_ | refine bcase_intro (fun _ => ?_) (fun _ => ?_) | refine ⟨(by with_reducible rfl), ?_⟩ | refine ⟨congrArg vi ?_, ?_⟩ | refine ⟨congrArg vb ?_, ?_⟩ | refine ⟨rfl, ?_⟩ | refine ⟨(by kernel_rfl : drawOK _ = true), ?_⟩ | refine Or.inl ?_ | refine ⟨⟨congrArg (T.int _) ?_, rfl⟩, ?_⟩ | refine ⟨⟨congrArg T.bool ?_, rfl⟩, ?_⟩ | refine ⟨⟨rfl, Nat.le_of_ble_eq_true rfl⟩, ?_⟩ | refine ⟨⟨rfl, rfl⟩, ?_⟩ | refine ⟨⟨rfl, (by decide)⟩, ?_⟩ | refine ⟨⟨rfl, ?_⟩, ?_⟩ | refine ⟨Or.inr rfl, ?_⟩ | refine ⟨Or.inl rfl, ?_⟩ | refine ⟨⟨⟨rfl, rfl, rfl⟩, ?_⟩, ?_⟩ | refine ⟨_, _, rfl, row_get _ _ arith, rfl, ?_⟩ | refine ⟨Or.inr (by repeat (first | exact trivial | refine ⟨rfl, ?_⟩)), ?_⟩ | refine ⟨(?_ : _ = ([] : List (List T))), ?_⟩ | fail))
    all_goals (try rfl)
  | true =>
    have h3 := inR_iff.1 h1
    have hw : IntKind.i64.wrap (n - 1) = n - 1 := w64_ok (by omega) (by omega)
    cases h2 : inR i 0 (n - 1) with
    | false =>
      have e : unitSel n i = [] := by unfold unitSel; rw [h1, h2]; rfl
      rw [e]
      refine fn_of Tryz.func64 rfl (by kernel_rfl) rfl ?_
      all_goals repeat' (first | (with_reducible rfl) | ((conv => whnf); first | refine ⟨_, c_InRange n 1 64, ?_⟩ | refine ⟨_, fn_args (c_InRange i 0 (n - 1)) (by rw [hw]; rfl), ?_⟩ | refine bcase_T (by rw [h1]; rfl) ?_ | refine bcase_F (by rw [h1]; rfl) ?_ | refine bcase_T (by rw [h2]; rfl) ?_ | exact trivial | (with_reducible rfl) | exact (rfl : (0 : Int) = ((0 : Nat) : Int)) | exact w64_nat arith | refine bcase_T (by first | with_reducible rfl | decide) ?_ | refine bcase_F (by first | with_reducible rfl | decide) ?_ | refine bcase_dec (fun _ => ?_) (fun _ => ?_) | refine bcase_not ?_ | refine bcase_intro (fun _ => ?_) (fun _ => ?_) | refine ⟨(by with_reducible rfl), ?_⟩ | refine ⟨congrArg vi ?_, ?_⟩ | refine ⟨congrArg vb ?_, ?_⟩ | refine ⟨rfl, ?_⟩ | refine ⟨(by kernel_rfl : drawOK _ = true), ?_⟩ | refine Or.inl ?_ | refine ⟨⟨congrArg (T.int _) ?_, rfl⟩, ?_⟩ | refine ⟨⟨congrArg T.bool ?_, rfl⟩, ?_⟩ | refine ⟨⟨rfl, Nat.le_of_ble_eq_true rfl⟩, ?_⟩ | refine ⟨⟨rfl, rfl⟩, ?_⟩ | refine ⟨⟨rfl, (by decide)⟩, ?_⟩ | refine ⟨⟨rfl, ?_⟩, ?_⟩ | refine ⟨Or.inr rfl, ?_⟩ | refine ⟨Or.inl rfl, ?_⟩ | refine ⟨⟨⟨rfl, rfl, rfl⟩, ?_⟩, ?_⟩ | refine ⟨_, _, rfl, row_get _ _ arith, rfl, ?_⟩ | refine ⟨Or.inr (by repeat (first | exact trivial | refine ⟨rfl, ?_⟩)), ?_⟩ | refine ⟨(?_ : _ = ([] : List (List T))), ?_⟩ | fail))
      all_goals (try rfl)
    | true =>
      have h4 := inR_iff.1 h2
      have e : unitSel n i = (List.replicate n.toNat 0).set i.toNat 1 := by unfold unitSel; rw [h1, h2]; rfl
      rw [e]
      refine fn_of Tryz.func64 rfl (by kernel_rfl) rfl ?_
      all_goals repeat' (first | (with_reducible rfl) | ((conv => whnf); first | refine ⟨_, c_InRange n 1 64, ?_⟩ | refine ⟨_, fn_args (c_InRange i 0 (n - 1)) (by rw [hw]; rfl), ?_⟩ | refine bcase_T (by rw [h1]; rfl) ?_ | refine bcase_F (by rw [h1]; rfl) ?_ | refine bcase_F (by rw [h2]; rfl) ?_ | refine ⟨n.toNat, ⟨(by omega), (by omega)⟩, ⟨(by show n.toNat * 8 ≤ _; omega), (by omega)⟩, ?_⟩ | refine ⟨i.toNat, (by omega), (by rw [List.length_replicate]; omega), ?_⟩ | refine ⟨_, (by rw [List.getElem?_replicate, if_pos (by omega)]), ⟨rfl, Nat.le_of_ble_eq_true rfl⟩, rfl, ?_⟩ | exact trivial | (with_reducible rfl) | exact (rfl : (0 : Int) = ((0 : Nat) : Int)) | exact w64_nat arith | refine bcase_T (by first | with_reducible rfl | decide) ?_ | refine bcase_F (by first | with_reducible rfl | decide) ?_ | refine bcase_dec (fun _ => ?_) (fun _ => ?_) | refine bcase_not ?_ | refine bcase_intro (fun _ => ?_) (fun _ => ?_) | refine ⟨(by with_reducible rfl), ?_⟩ | refine ⟨congrArg vi ?_, ?_⟩ | refine ⟨congrArg vb ?_, ?_⟩ | refine ⟨rfl, ?_⟩ | refine ⟨(by kernel_rfl : drawOK _ = true), ?_⟩ | refine Or.inl ?_ | refine ⟨⟨congrArg (T.int _) ?_, rfl⟩, ?_⟩ | refine ⟨⟨congrArg T.bool ?_, rfl⟩, ?_⟩ | refine ⟨⟨rfl, Nat.le_of_ble_eq_true rfl⟩, ?_⟩ | refine ⟨⟨rfl, rfl⟩, ?_⟩ | refine ⟨⟨rfl, (by decide)⟩, ?_⟩ | refine ⟨⟨rfl, ?_⟩, ?_⟩ | refine ⟨Or.inr rfl, ?_⟩ | refine ⟨Or.inl rfl, ?_⟩ | refine ⟨⟨⟨rfl, rfl, rfl⟩, ?_⟩, ?_⟩ | refine ⟨_, _, rfl, row_get _ _ arith, rfl, ?_⟩ | refine ⟨Or.inr (by repeat (first | exact trivial | refine ⟨rfl, ?_⟩)), ?_⟩ | refine ⟨(?_ : _ = ([] : List (List T))), ?_⟩ | fail))
      all_goals first
        | exact zeros_set _ _
        | trace_state
theorem c_sUnitSelection (n i : Int) : FnAt Tryz.prog 87 [.one (I n), .one (I i)] [.one (.l 1 ((unitSel n i).map eI))] := by
  cases h1 : inR n 1 64 with
  | false =>
    have e : unitSel n i = [] := by unfold unitSel; rw [h1]; rfl
    rw [e]
    refine fn_of Tryz.func87 rfl (by kernel_rfl) rfl ?_
    all_goals repeat' (first | (with_reducible rfl) | ((conv => whnf); first | refine ⟨_, c_l1In n 1 64, ?_⟩ | refine bcase_F (by rw [h1]; rfl) ?_ | refine bcase_T (by rw [h1]; rfl) ?_ | exact trivial | (with_reducible rfl) | exact (rfl : (0 : Int) = ((0 : Nat) : Int)) | exact w64_nat arith | refine bcase_T (by first | with_reducible rfl | decide) ?_ | refine bcase_F (by first | with_reducible rfl | decide) ?_ | refine bcase_dec (fun _ => ?_) (fun _ => ?_) | refine bcase_not ?_ | refine bcase_intro (fun _ => ?_) (fun _ => ?_) | refine ⟨(by with_reducible rfl), ?_⟩ | refine ⟨congrArg vi ?_, ?_⟩ | refine ⟨congrArg vb ?_, ?_⟩ | refine ⟨rfl, ?_⟩ | refine ⟨(by kernel_rfl : drawOK _ = true), ?_⟩ | refine Or.inl ?_ | refine ⟨⟨congrArg (T.int _) ?_, rfl⟩, ?_⟩ | refine ⟨⟨congrArg T.bool ?_, rfl⟩, ?_⟩ | refine ⟨⟨rfl, Nat.le_of_ble_eq_true rfl⟩, ?_⟩ | refine ⟨⟨rfl, rfl⟩, ?_⟩ | refine ⟨⟨rfl, (by decide)⟩, ?_⟩ | refine ⟨⟨rfl, ?_⟩, ?_⟩ | refine ⟨Or.inr rfl, ?_⟩ | refine ⟨Or.inl rfl, ?_⟩ | refine ⟨⟨⟨rfl, rfl, rfl⟩, ?_⟩, ?_⟩ | refine ⟨_, _, rfl, row_get _ _ arith, rfl, ?_⟩ | refine ⟨Or.inr (by repeat (first | exact trivial | refine ⟨rfl, ?_⟩)), ?_⟩ | refine ⟨(?_ : _ = ([] : List (List T))), ?_⟩ | fail))
    all_goals (try rfl)
  | true =>
    have h3 := inR_iff.1 h1
    have hw : IntKind.i64.wrap (n - 1) = n - 1 := w64_ok (by omega) (by omega)
    cases h2 : inR i 0 (n - 1) with
    | false =>
      have e : unitSel n i = [] := by unfold unitSel; rw [h1, h2]; rfl
      rw [e]
      refine fn_of Tryz.func87 rfl (by kernel_rfl) rfl ?_
      all_goals repeat' (first | (with_reducible rfl) | ((conv => whnf); first | refine ⟨_, c_l1In n 1 64, ?_⟩ | refine ⟨_, fn_args (c_l1In i 0 (n - 1)) (by rw [hw]; rfl), ?_⟩ | refine bcase_T (by rw [h1]; rfl) ?_ | refine bcase_F (by rw [h1]; rfl) ?_ | refine bcase_T (by rw [h2]; rfl) ?_ | exact trivial | (with_reducible rfl) | exact (rfl : (0 : Int) = ((0 : Nat) : Int)) | exact w64_nat arith | refine bcase_T (by first | with_reducible rfl | decide) ?_ | refine bcase_F (by first | with_reducible rfl | decide) ?_ | refine bcase_dec (fun _ => ?_) (fun _ => ?_) | refine bcase_not ?_ | refine bcase_intro (fun _ => ?_) (fun _ => ?_) | refine ⟨(by with_reducible rfl), ?_⟩ | refine ⟨congrArg vi ?_, ?_⟩ | refine ⟨congrArg vb ?_, ?_⟩ | refine ⟨rfl, ?_⟩ | refine ⟨(by kernel_rfl : drawOK _ = true), ?_⟩ | refine Or.inl ?_ | refine ⟨⟨congrArg (T.int _) ?_, rfl⟩, ?_⟩ | refine ⟨⟨congrArg T.bool ?_, rfl⟩, ?_⟩ | refine ⟨⟨rfl, Nat.le_of_ble_eq_true rfl⟩, ?_⟩ | refine ⟨⟨rfl, rfl⟩, ?_⟩ | refine ⟨⟨rfl, (by decide)⟩, ?_⟩ | refine ⟨⟨rfl, ?_⟩, ?_⟩ | refine ⟨Or.inr rfl, ?_⟩ | refine ⟨Or.inl rfl, ?_⟩ | refine ⟨⟨⟨rfl, rfl, rfl⟩, ?_⟩, ?_⟩ | refine ⟨_, _, rfl, row_get _ _ arith, rfl, ?_⟩ | refine ⟨Or.inr (by repeat (first | exact trivial | refine ⟨rfl, ?_⟩)), ?_⟩ | refine ⟨(?_ : _ = ([] : List (List T))), ?_⟩ | fail))
      all_goals (try rfl)
    | true =>
      have h4 := inR_iff.1 h2
      have e : unitSel n i = (List.replicate n.toNat 0).set i.toNat 1 := by unfold unitSel; rw [h1, h2]; rfl
      rw [e]
      refine fn_of Tryz.func87 rfl (by kernel_rfl) rfl ?_
      all_goals repeat' (first | (with_reducible rfl) | ((conv => whnf); first | refine ⟨_, c_l1In n 1 64, ?_⟩ | refine ⟨_, fn_args (c_l1In i 0 (n - 1)) (by rw [hw]; rfl), ?_⟩ | refine bcase_T (by rw [h1]; rfl) ?_ | refine bcase_F (by rw [h1]; rfl) ?_ | refine bcase_F (by rw [h2]; rfl) ?_ | refine ⟨n.toNat, ⟨(by omega), (by omega)⟩, ⟨(by show n.toNat * 8 ≤ _; omega), (by omega)⟩, ?_⟩ | refine ⟨i.toNat, (by omega), (by rw [List.length_replicate]; omega), ?_⟩ | refine ⟨_, (by rw [List.getElem?_replicate, if_pos (by omega)]), ⟨rfl, Nat.le_of_ble_eq_true rfl⟩, rfl, ?_⟩ | exact trivial | (with_reducible rfl) | exact (rfl : (0 : Int) = ((0 : Nat) : Int)) | exact w64_nat arith | refine bcase_T (by first | with_reducible rfl | decide) ?_ | refine bcase_F (by first | with_reducible rfl | decide) ?_ | refine bcase_dec (fun _ => ?_) (fun _ => ?_) | refine bcase_not ?_ | refine bcase_intro (fun _ => ?_) (fun _ => ?_) | refine ⟨(by with_reducible rfl), ?_⟩ | refine ⟨congrArg vi ?_, ?_⟩ | refine ⟨congrArg vb ?_, ?_⟩ | refine ⟨rfl, ?_⟩ | refine ⟨(by kernel_rfl : drawOK _ = true), ?_⟩ | refine Or.inl ?_ | refine ⟨⟨congrArg (T.int _) ?_, rfl⟩, ?_⟩ | refine ⟨⟨congrArg T.bool ?_, rfl⟩, ?_⟩ | refine ⟨⟨rfl, Nat.le_of_ble_eq_true rfl⟩, ?_⟩ | refine ⟨⟨rfl, rfl⟩, ?_⟩ | refine ⟨⟨rfl, (by decide)⟩, ?_⟩ | refine ⟨⟨rfl, ?_⟩, ?_⟩ | refine ⟨Or.inr rfl, ?_⟩ | refine ⟨Or.inl rfl, ?_⟩ | refine ⟨⟨⟨rfl, rfl, rfl⟩, ?_⟩, ?_⟩ | refine ⟨_, _, rfl, row_get _ _ arith, rfl, ?_⟩ | refine ⟨Or.inr (by repeat (first | exact trivial | refine ⟨rfl, ?_⟩)), ?_⟩ | refine ⟨(?_ : _ = ([] : List (List T))), ?_⟩ | fail))
      all_goals first
        | exact zeros_set _ _
        | trace_state
def xorSf (b : List Int) (i : Nat) (x : Int) : Int := bits .xor .i64 x (b[i]?.getD 0)
def xorSel (a b : List Int) : List Int := if selOk a a.length && selOk b a.length then a.mapIdx (xorSf b) else []
theorem selOk_len {v : List Int} {n : Int} (h : selOk v n = true) : (v.length : Int) = n ∧ n ≤ 64 := by
  rw [selOk_eq] at h
  simp only [Bool.and_eq_true, decide_eq_true_eq] at h
  exact h.1
theorem xorSel_len (a b : List Int) : (xorSel a b).length ≤ 64 := by
  unfold xorSel
  split
  · next h =>
    rw [Bool.and_eq_true] at h
    have := selOk_len h.1
    rw [List.length_mapIdx]; omega
  · simp
theorem c_XorSelections (a b : List Int) (ha : a.length ≤ 1099511627776) (hb : b.length ≤ 1099511627776) : FnAt Tryz.prog 66 [.one (L eI a), .one (L eI b)] [.one (.l 1 ((xorSel a b).map eI))] := by
  have hm : (a.map eI).length = a.length := List.length_map eI
  have i0 := c_IsSelection a a.length ha
  have i1 := c_IsSelection b a.length hb
  cases h1 : selOk a a.length with
  | false =>
    have e : xorSel a b = [] := by unfold xorSel; rw [h1]; rfl
    rw [h1] at i0
    rw [e]
    refine fn_of Tryz.func66 rfl (by kernel_rfl) rfl ?_
    all_goals repeat' (first | (with_reducible rfl) | ((conv => whnf); first | refine ⟨_, fn_args i0 (congrArg (fun k : Nat => [V.one (L eI a), V.one (I k)]) hm), ?_⟩ | refine ⟨_, fn_args i1 (congrArg (fun k : Nat => [V.one (L eI b), V.one (I k)]) hm), ?_⟩ | exact trivial | (with_reducible rfl) | exact (rfl : (0 : Int) = ((0 : Nat) : Int)) | exact w64_nat arith | refine bcase_T (by first | with_reducible rfl | decide) ?_ | refine bcase_F (by first | with_reducible rfl | decide) ?_ | refine bcase_dec (fun _ => ?_) (fun _ => ?_) | refine bcase_not ?_ | refine bcase_intro (fun _ => ?_) (fun _ => ?_) | refine ⟨(by with_reducible rfl), ?_⟩ | refine ⟨congrArg vi ?_, ?_⟩ | refine ⟨congrArg vb ?_, ?_⟩ | refine ⟨rfl, ?_⟩ | refine ⟨(by kernel_rfl : drawOK _ = true), ?_⟩ | refine Or.inl ?_ | refine ⟨⟨congrArg (T.int _) ?_, rfl⟩, ?_⟩ | refine ⟨⟨congrArg T.bool ?_, rfl⟩, ?_⟩ | refine ⟨⟨rfl, Nat.le_of_ble_eq_true rfl⟩, ?_⟩ | refine ⟨⟨rfl, rfl⟩, ?_⟩ | refine ⟨⟨rfl, (by decide)⟩, ?_⟩ | refine ⟨⟨rfl, ?_⟩, ?_⟩ | refine ⟨Or.inr rfl, ?_⟩ | refine ⟨Or.inl rfl, ?_⟩ | refine ⟨⟨⟨rfl, rfl, rfl⟩, ?_⟩, ?_⟩ | refine ⟨_, _, rfl, row_get _ _ arith, rfl, ?_⟩ | refine ⟨Or.inr (by repeat (first | exact trivial | refine ⟨rfl, ?_⟩)), ?_⟩ | refine ⟨(?_ : _ = ([] : List (List T))), ?_⟩ | fail))
    all_goals (try rfl)
  | true =>
    rw [h1] at i0
    cases h2 : selOk b a.length with
    | false =>
      have e : xorSel a b = [] := by unfold xorSel; rw [h1, h2]; rfl
      rw [h2] at i1
      rw [e]
      refine fn_of Tryz.func66 rfl (by kernel_rfl) rfl ?_
      all_goals repeat' (first | (with_reducible rfl) | ((conv => whnf); first | refine ⟨_, fn_args i0 (congrArg (fun k : Nat => [V.one (L eI a), V.one (I k)]) hm), ?_⟩ | refine ⟨_, fn_args i1 (congrArg (fun k : Nat => [V.one (L eI b), V.one (I k)]) hm), ?_⟩ | exact trivial | (with_reducible rfl) | exact (rfl : (0 : Int) = ((0 : Nat) : Int)) | exact w64_nat arith | refine bcase_T (by first | with_reducible rfl | decide) ?_ | refine bcase_F (by first | with_reducible rfl | decide) ?_ | refine bcase_dec (fun _ => ?_) (fun _ => ?_) | refine bcase_not ?_ | refine bcase_intro (fun _ => ?_) (fun _ => ?_) | refine ⟨(by with_reducible rfl), ?_⟩ | refine ⟨congrArg vi ?_, ?_⟩ | refine ⟨congrArg vb ?_, ?_⟩ | refine ⟨rfl, ?_⟩ | refine ⟨(by kernel_rfl : drawOK _ = true), ?_⟩ | refine Or.inl ?_ | refine ⟨⟨congrArg (T.int _) ?_, rfl⟩, ?_⟩ | refine ⟨⟨congrArg T.bool ?_, rfl⟩, ?_⟩ | refine ⟨⟨rfl, Nat.le_of_ble_eq_true rfl⟩, ?_⟩ | refine ⟨⟨rfl, rfl⟩, ?_⟩ | refine ⟨⟨rfl, (by decide)⟩, ?_⟩ | refine ⟨⟨rfl, ?_⟩, ?_⟩ | refine ⟨Or.inr rfl, ?_⟩ | refine ⟨Or.inl rfl, ?_⟩ | refine ⟨⟨⟨rfl, rfl, rfl⟩, ?_⟩, ?_⟩ | refine ⟨_, _, rfl, row_get _ _ arith, rfl, ?_⟩ | refine ⟨Or.inr (by repeat (first | exact trivial | refine ⟨rfl, ?_⟩)), ?_⟩ | refine ⟨(?_ : _ = ([] : List (List T))), ?_⟩ | fail))
      all_goals (try rfl)
    | true =>
      have e : xorSel a b = a.mapIdx (xorSf b) := by unfold xorSel; rw [h1, h2]; rfl
      have hl := (selOk_len h2).1
      rw [h2] at i1
      rw [e]
      refine fn_of Tryz.func66 rfl (by kernel_rfl) rfl ?_
      all_goals repeat' (first | (with_reducible rfl) | ((conv => whnf); first | refine ⟨_, fn_args i0 (congrArg (fun k : Nat => [V.one (L eI a), V.one (I k)]) hm), ?_⟩ | refine ⟨_, fn_args i1 (congrArg (fun k : Nat => [V.one (L eI b), V.one (I k)]) hm), ?_⟩ | refine ⟨_, c_CloneI a ha, ?_⟩ | exact trivial | (with_reducible rfl) | exact (rfl : (0 : Int) = ((0 : Nat) : Int)) | exact w64_nat arith | refine bcase_T (by first | with_reducible rfl | decide) ?_ | refine bcase_F (by first | with_reducible rfl | decide) ?_ | refine bcase_dec (fun _ => ?_) (fun _ => ?_) | refine bcase_not ?_ | refine bcase_intro (fun _ => ?_) (fun _ => ?_) | refine ⟨(by with_reducible rfl), ?_⟩ | refine ⟨congrArg vi ?_, ?_⟩ | refine ⟨congrArg vb ?_, ?_⟩ | refine ⟨rfl, ?_⟩ | refine ⟨(by kernel_rfl : drawOK _ = true), ?_⟩ | refine Or.inl ?_ | refine ⟨⟨congrArg (T.int _) ?_, rfl⟩, ?_⟩ | refine ⟨⟨congrArg T.bool ?_, rfl⟩, ?_⟩ | refine ⟨⟨rfl, Nat.le_of_ble_eq_true rfl⟩, ?_⟩ | refine ⟨⟨rfl, rfl⟩, ?_⟩ | refine ⟨⟨rfl, (by decide)⟩, ?_⟩ | refine ⟨⟨rfl, ?_⟩, ?_⟩ | refine ⟨Or.inr rfl, ?_⟩ | refine ⟨Or.inl rfl, ?_⟩ | refine ⟨⟨⟨rfl, rfl, rfl⟩, ?_⟩, ?_⟩ | refine ⟨_, _, rfl, row_get _ _ arith, rfl, ?_⟩ | refine ⟨Or.inr (by repeat (first | exact trivial | refine ⟨rfl, ?_⟩)), ?_⟩ | refine ⟨(?_ : _ = ([] : List (List T))), ?_⟩ | fail))
      conv => whnf
      refine ⟨Nat, fun i => i ≤ b.length, fun i => ⟨[(5, .c (.ref 0)), (22, vl (b.map eI)), (23, vi b.length), (24, vi i)], [(0, .row true true 1 ((Vm.part (xorSf b) a i).map eI))], 1⟩, fun i => b.length - i, 0, Nat.zero_le _, sub_at [(0, 5)] rfl rfl rfl ?_ ?_, fun i (hi : i ≤ b.length) => ?_⟩
      all_goals repeat' (first | (with_reducible rfl) | ((conv => whnf); first | exact trivial | (with_reducible rfl) | exact (rfl : (0 : Int) = ((0 : Nat) : Int)) | exact w64_nat arith | refine bcase_T (by first | with_reducible rfl | decide) ?_ | refine bcase_F (by first | with_reducible rfl | decide) ?_ | refine bcase_dec (fun _ => ?_) (fun _ => ?_) | refine bcase_not ?_ | refine bcase_intro (fun _ => ?_) (fun _ => ?_) | refine ⟨(by with_reducible rfl), ?_⟩ | refine ⟨congrArg vi ?_, ?_⟩ | refine ⟨congrArg vb ?_, ?_⟩ | refine ⟨rfl, ?_⟩ | refine ⟨(by kernel_rfl : drawOK _ = true), ?_⟩ | refine Or.inl ?_ | refine ⟨⟨congrArg (T.int _) ?_, rfl⟩, ?_⟩ | refine ⟨⟨congrArg T.bool ?_, rfl⟩, ?_⟩ | refine ⟨⟨rfl, Nat.le_of_ble_eq_true rfl⟩, ?_⟩ | refine ⟨⟨rfl, rfl⟩, ?_⟩ | refine ⟨⟨rfl, (by decide)⟩, ?_⟩ | refine ⟨⟨rfl, ?_⟩, ?_⟩ | refine ⟨Or.inr rfl, ?_⟩ | refine ⟨Or.inl rfl, ?_⟩ | refine ⟨⟨⟨rfl, rfl, rfl⟩, ?_⟩, ?_⟩ | refine ⟨_, _, rfl, row_get _ _ arith, rfl, ?_⟩ | refine ⟨Or.inr (by repeat (first | exact trivial | refine ⟨rfl, ?_⟩)), ?_⟩ | refine ⟨(?_ : _ = ([] : List (List T))), ?_⟩ | refine ⟨i, rfl, (by rw [List.length_map, part_len]; omega), ?_⟩ | refine ⟨_, partm_get eI (by omega), ?_⟩ | refine ⟨_, partm_get eI (by omega), ⟨rfl, Nat.le_of_ble_eq_true rfl⟩, ?_⟩ | refine ⟨i + 1, ⟨arith, arith⟩, sub_at [(0, 5)] rfl rfl rfl ?_ ?_⟩ | fail))
      all_goals first
        | (rw [List.length_map]; done)
        | (rw [part_zero]; done)
        | (rw [part_all (by omega)]; done)
        | (rw [← partm_set eI (show i < a.length by omega)]; congr 1; have h0 : i < b.length := (by omega); show [T.int .i64 (bits .xor .i64 a[i] b[i])] = [T.int .i64 (bits .xor .i64 a[i] (b[i]?.getD 0))]; rw [show b[i]?.getD 0 = b[i] from (by simp [h0])])
        | trace_state
theorem c_sXorSelections (a b : List Int) (ha : a.length ≤ 1099511627776) (hb : b.length ≤ 1099511627776) : FnAt Tryz.prog 89 [.one (L eI a), .one (L eI b)] [.one (.l 1 ((xorSel a b).map eI))] := by
  have hm : (a.map eI).length = a.length := List.length_map eI
  have hmb : (b.map eI).length = b.length := List.length_map eI
  have i0 := c_sIsSelection a a.length ha
  have i1 := c_sIsSelection b a.length hb
  cases h1 : selOk a a.length with
  | false =>
    have e : xorSel a b = [] := by unfold xorSel; rw [h1]; rfl
    rw [h1] at i0
    rw [e]
    refine fn_of Tryz.func89 rfl (by kernel_rfl) rfl ?_
    all_goals repeat' (first | (with_reducible rfl) | ((conv => whnf); first | refine ⟨_, fn_args i0 (congrArg (fun k : Nat => [V.one (L eI a), V.one (I k)]) hm), ?_⟩ | refine ⟨_, fn_args i1 (congrArg (fun k : Nat => [V.one (L eI b), V.one (I k)]) hm), ?_⟩ | exact trivial | (with_reducible rfl) | exact (rfl : (0 : Int) = ((0 : Nat) : Int)) | exact w64_nat arith | refine bcase_T (by first | with_reducible rfl | decide) ?_ | refine bcase_F (by first | with_reducible rfl | decide) ?_ | refine bcase_dec (fun _ => ?_) (fun _ => ?_) | refine bcase_not ?_ | refine bcase_intro (fun _ => ?_) (fun _ => ?_) | refine ⟨(by with_reducible rfl), ?_⟩ | refine ⟨congrArg vi ?_, ?_⟩ | refine ⟨congrArg vb ?_, ?_⟩ | refine ⟨rfl, ?_⟩ | refine ⟨(by kernel_rfl : drawOK _ = true), ?_⟩ | refine Or.inl ?_ | refine ⟨⟨congrArg (T.int _) ?_, rfl⟩, ?_⟩ | refine ⟨⟨congrArg T.bool ?_, rfl⟩, ?_⟩ | refine ⟨⟨rfl, Nat.le_of_ble_eq_true rfl⟩, ?_⟩ | refine ⟨⟨rfl, rfl⟩, ?_⟩ | refine ⟨⟨rfl, (by decide)⟩, ?_⟩ | refine ⟨⟨rfl, ?_⟩, ?_⟩ | refine ⟨Or.inr rfl, ?_⟩ | refine ⟨Or.inl rfl, ?_⟩ | refine ⟨⟨⟨rfl, rfl, rfl⟩, ?_⟩, ?_⟩ | refine ⟨_, _, rfl, row_get _ _ arith, rfl, ?_⟩ | refine ⟨Or.inr (by repeat (first | exact trivial | refine ⟨rfl, ?_⟩)), ?_⟩ | refine ⟨(?_ : _ = ([] : List (List T))), ?_⟩ | fail))
    all_goals (try rfl)
  | true =>
    rw [h1] at i0
    cases h2 : selOk b a.length with
    | false =>
      have e : xorSel a b = [] := by unfold xorSel; rw [h1, h2]; rfl
      rw [h2] at i1
      rw [e]
      refine fn_of Tryz.func89 rfl (by kernel_rfl) rfl ?_
      all_goals repeat' (first | (with_reducible rfl) | ((conv => whnf); first | refine ⟨_, fn_args i0 (congrArg (fun k : Nat => [V.one (L eI a), V.one (I k)]) hm), ?_⟩ | refine ⟨_, fn_args i1 (congrArg (fun k : Nat => [V.one (L eI b), V.one (I k)]) hm), ?_⟩ | exact trivial | (with_reducible rfl) | exact (rfl : (0 : Int) = ((0 : Nat) : Int)) | exact w64_nat arith | refine bcase_T (by first | with_reducible rfl | decide) ?_ | refine bcase_F (by first | with_reducible rfl | decide) ?_ | refine bcase_dec (fun _ => ?_) (fun _ => ?_) | refine bcase_not ?_ | refine bcase_intro (fun _ => ?_) (fun _ => ?_) | refine ⟨(by with_reducible rfl), ?_⟩ | refine ⟨congrArg vi ?_, ?_⟩ | refine ⟨congrArg vb ?_, ?_⟩ | refine ⟨rfl, ?_⟩ | refine ⟨(by kernel_rfl : drawOK _ = true), ?_⟩ | refine Or.inl ?_ | refine ⟨⟨congrArg (T.int _) ?_, rfl⟩, ?_⟩ | refine ⟨⟨congrArg T.bool ?_, rfl⟩, ?_⟩ | refine ⟨⟨rfl, Nat.le_of_ble_eq_true rfl⟩, ?_⟩ | refine ⟨⟨rfl, rfl⟩, ?_⟩ | refine ⟨⟨rfl, (by decide)⟩, ?_⟩ | refine ⟨⟨rfl, ?_⟩, ?_⟩ | refine ⟨Or.inr rfl, ?_⟩ | refine ⟨Or.inl rfl, ?_⟩ | refine ⟨⟨⟨rfl, rfl, rfl⟩, ?_⟩, ?_⟩ | refine ⟨_, _, rfl, row_get _ _ arith, rfl, ?_⟩ | refine ⟨Or.inr (by repeat (first | exact trivial | refine ⟨rfl, ?_⟩)), ?_⟩ | refine ⟨(?_ : _ = ([] : List (List T))), ?_⟩ | fail))
      all_goals (try rfl)
    | true =>
      have e : xorSel a b = a.mapIdx (xorSf b) := by unfold xorSel; rw [h1, h2]; rfl
      have hl := (selOk_len h2).1
      have hml : (a.mapIdx (xorSf b)).length = a.length := List.length_mapIdx
      rw [h2] at i1
      rw [e]
      refine fn_of Tryz.func89 rfl (by kernel_rfl) rfl ?_
      all_goals repeat' (first | (with_reducible rfl) | ((conv => whnf); first | refine ⟨_, fn_args i0 (congrArg (fun k : Nat => [V.one (L eI a), V.one (I k)]) hm), ?_⟩ | refine ⟨_, fn_args i1 (congrArg (fun k : Nat => [V.one (L eI b), V.one (I k)]) hm), ?_⟩ | exact trivial | (with_reducible rfl) | exact (rfl : (0 : Int) = ((0 : Nat) : Int)) | exact w64_nat arith | refine bcase_T (by first | with_reducible rfl | decide) ?_ | refine bcase_F (by first | with_reducible rfl | decide) ?_ | refine bcase_dec (fun _ => ?_) (fun _ => ?_) | refine bcase_not ?_ | refine bcase_intro (fun _ => ?_) (fun _ => ?_) | refine ⟨(by with_reducible rfl), ?_⟩ | refine ⟨congrArg vi ?_, ?_⟩ | refine ⟨congrArg vb ?_, ?_⟩ | refine ⟨rfl, ?_⟩ | refine ⟨(by kernel_rfl : drawOK _ = true), ?_⟩ | refine Or.inl ?_ | refine ⟨⟨congrArg (T.int _) ?_, rfl⟩, ?_⟩ | refine ⟨⟨congrArg T.bool ?_, rfl⟩, ?_⟩ | refine ⟨⟨rfl, Nat.le_of_ble_eq_true rfl⟩, ?_⟩ | refine ⟨⟨rfl, rfl⟩, ?_⟩ | refine ⟨⟨rfl, (by decide)⟩, ?_⟩ | refine ⟨⟨rfl, ?_⟩, ?_⟩ | refine ⟨Or.inr rfl, ?_⟩ | refine ⟨Or.inl rfl, ?_⟩ | refine ⟨⟨⟨rfl, rfl, rfl⟩, ?_⟩, ?_⟩ | refine ⟨_, _, rfl, row_get _ _ arith, rfl, ?_⟩ | refine ⟨Or.inr (by repeat (first | exact trivial | refine ⟨rfl, ?_⟩)), ?_⟩ | refine ⟨(?_ : _ = ([] : List (List T))), ?_⟩ | fail))
      conv => whnf
      refine ⟨Nat, fun i => i ≤ a.length, fun i => ⟨[(0, vl (a.map eI)), (1, vl (b.map eI)), (5, .c (.ref 0)), (6, vi i)], [(0, .row true true 1 (((a.mapIdx (xorSf b)).take i).map eI))], 1⟩, fun i => a.length - i, 0, Nat.zero_le _, sub_at [(0, 5)] rfl rfl rfl ?_ ?_, fun i (hi : i ≤ a.length) => ?_⟩
      all_goals repeat' (first | (with_reducible rfl) | ((conv => whnf); first | exact trivial | (with_reducible rfl) | exact (rfl : (0 : Int) = ((0 : Nat) : Int)) | exact w64_nat arith | refine bcase_T (by first | with_reducible rfl | decide) ?_ | refine bcase_F (by first | with_reducible rfl | decide) ?_ | refine bcase_dec (fun _ => ?_) (fun _ => ?_) | refine bcase_not ?_ | refine bcase_intro (fun _ => ?_) (fun _ => ?_) | refine ⟨(by with_reducible rfl), ?_⟩ | refine ⟨congrArg vi ?_, ?_⟩ | refine ⟨congrArg vb ?_, ?_⟩ | refine ⟨rfl, ?_⟩ | refine ⟨(by kernel_rfl : drawOK _ = true), ?_⟩ | refine Or.inl ?_ | refine ⟨⟨congrArg (T.int _) ?_, rfl⟩, ?_⟩ | refine ⟨⟨congrArg T.bool ?_, rfl⟩, ?_⟩ | refine ⟨⟨rfl, Nat.le_of_ble_eq_true rfl⟩, ?_⟩ | refine ⟨⟨rfl, rfl⟩, ?_⟩ | refine ⟨⟨rfl, (by decide)⟩, ?_⟩ | refine ⟨⟨rfl, ?_⟩, ?_⟩ | refine ⟨Or.inr rfl, ?_⟩ | refine ⟨Or.inl rfl, ?_⟩ | refine ⟨⟨⟨rfl, rfl, rfl⟩, ?_⟩, ?_⟩ | refine ⟨_, _, rfl, row_get _ _ arith, rfl, ?_⟩ | refine ⟨Or.inr (by repeat (first | exact trivial | refine ⟨rfl, ?_⟩)), ?_⟩ | refine ⟨(?_ : _ = ([] : List (List T))), ?_⟩ | refine ⟨i, _, rfl, row_get _ _ (by omega), rfl, ?_⟩ | refine ⟨true, fun _ => (by simp [isScal]), ⟨rfl, rfl⟩, ⟨bnd, bnd⟩, ?_⟩ | refine ⟨i + 1, ⟨arith, arith⟩, sub_at [(0, 5)] rfl rfl rfl ?_ ?_⟩ | fail))
      all_goals first
        | rfl
        | (rw [List.take_of_length_le (by omega)]; done)
        | (have h0 : i < b.length := (by omega); rw [List.take_succ_eq_append_getElem (show i < (a.mapIdx (xorSf b)).length by omega), List.map_append, List.getElem_mapIdx]; show _ ++ [[T.int .i64 (bits .xor .i64 a[i] b[i])]] = _ ++ [[T.int .i64 (bits .xor .i64 a[i] (b[i]?.getD 0))]]; rw [show b[i]?.getD 0 = b[i] from (by simp [h0])])
        | trace_state
end Go.Proofs.YtmaamiapipngaaaGreat
