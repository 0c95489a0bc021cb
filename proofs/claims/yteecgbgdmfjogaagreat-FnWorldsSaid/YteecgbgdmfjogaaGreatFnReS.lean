/-
  Contracts: opened cells, of the model.
  Contracts: what a client reads, of the model.
  Conditions: none.
-/
import Derived.Test.YteecgbgdmfjogaaGreatFnRe
namespace Go.Proofs.YteecgbgdmfjogaaGreat
set_option maxHeartbeats 4000000
set_option maxRecDepth 20000
open Go.Vm Go.RowKit
attribute [local irreducible] FnAt MutAt InAt JAt CurAt FnE CurE RegAt

attribute [local irreducible] bytes4 Vm.byteOf join4 bits cellKey
theorem c_sOpenCell (k c : Int) (b : List UInt8) (_ : b.length ≤ 1099511627776) : FnAt Tryz.prog 143 [.one (I k), .one (I c), .one (L eU b)] [.agg (DPlain.r (openCell k c b)), .one (.s (.bool (openOk k c b)))] := by
  have hm : (b.map eU).length = b.length := List.length_map eU
  have fin : ∀ h : openHead k c b = false, openOk k c b = false ∧ openCell k c b = ⟨0, []⟩ := fun h => by
    have e : openOk k c b = false := by unfold openOk; rw [h]; rfl
    exact ⟨e, by unfold openCell; rw [e]; rfl⟩
  cases h1 : inR k 1 2147483646 with
  | false =>
    obtain ⟨e1, e2⟩ := fin (by unfold openHead; rw [h1]; rfl)
    rw [e1, e2]
    refine fn_of Tryz.func143 rfl (by kernel_rfl) rfl ?_
    all_goals repeat' (first | (with_reducible rfl) | ((conv => whnf); first | refine ⟨_, c_sIsValidKey _, ?_⟩ | refine bcase_T (by rw [h1]; rfl) ?_ | exact trivial | (with_reducible rfl) | exact (rfl : (0 : Int) = ((0 : Nat) : Int)) | exact w64_nat arith | refine bcase_T (by first | with_reducible rfl | decide) ?_ | refine bcase_F (by first | with_reducible rfl | decide) ?_ | refine bcase_dec (fun _ => ?_) (fun _ => ?_) | refine bcase_not ?_ | refine bcase_intro (fun _ => ?_) (fun _ => ?_) | refine ⟨(by with_reducible rfl), ?_⟩ | refine ⟨congrArg vi ?_, ?_⟩ | refine ⟨congrArg vb ?_, ?_⟩ | refine ⟨rfl, ?_⟩ | refine ⟨(by kernel_rfl : drawOK _ = true), ?_⟩ | refine Or.inl ?_ | refine ⟨⟨congrArg (T.int _) ?_, rfl⟩, ?_⟩ | refine ⟨⟨congrArg T.bool ?_, rfl⟩, ?_⟩ | refine ⟨⟨rfl, Nat.le_of_ble_eq_true rfl⟩, ?_⟩ | refine ⟨⟨rfl, rfl⟩, ?_⟩ | refine ⟨⟨rfl, (by decide)⟩, ?_⟩ | refine ⟨⟨rfl, ?_⟩, ?_⟩ | refine ⟨Or.inr rfl, ?_⟩ | refine ⟨Or.inl rfl, ?_⟩ | refine ⟨⟨⟨rfl, rfl, rfl⟩, ?_⟩, ?_⟩ | refine ⟨_, _, rfl, row_get _ _ arith, rfl, ?_⟩ | refine ⟨Or.inr (by repeat (first | exact trivial | refine ⟨rfl, ?_⟩)), ?_⟩ | refine ⟨(?_ : _ = ([] : List (List T))), ?_⟩ | fail))
    all_goals rfl
  | true =>
  cases h2 : inR c 0 1000000000000 with
  | false =>
    obtain ⟨e1, e2⟩ := fin (by unfold openHead; rw [h1, h2]; rfl)
    rw [e1, e2]
    refine fn_of Tryz.func143 rfl (by kernel_rfl) rfl ?_
    all_goals repeat' (first | (with_reducible rfl) | ((conv => whnf); first | refine ⟨_, c_sIsValidKey _, ?_⟩ | refine ⟨_, c_l1In _ _ _, ?_⟩ | refine bcase_F (by rw [h1]; rfl) ?_ | refine bcase_T (by rw [h2]; rfl) ?_ | exact trivial | (with_reducible rfl) | exact (rfl : (0 : Int) = ((0 : Nat) : Int)) | exact w64_nat arith | refine bcase_T (by first | with_reducible rfl | decide) ?_ | refine bcase_F (by first | with_reducible rfl | decide) ?_ | refine bcase_dec (fun _ => ?_) (fun _ => ?_) | refine bcase_not ?_ | refine bcase_intro (fun _ => ?_) (fun _ => ?_) | refine ⟨(by with_reducible rfl), ?_⟩ | refine ⟨congrArg vi ?_, ?_⟩ | refine ⟨congrArg vb ?_, ?_⟩ | refine ⟨rfl, ?_⟩ | refine ⟨(by kernel_rfl : drawOK _ = true), ?_⟩ | refine Or.inl ?_ | refine ⟨⟨congrArg (T.int _) ?_, rfl⟩, ?_⟩ | refine ⟨⟨congrArg T.bool ?_, rfl⟩, ?_⟩ | refine ⟨⟨rfl, Nat.le_of_ble_eq_true rfl⟩, ?_⟩ | refine ⟨⟨rfl, rfl⟩, ?_⟩ | refine ⟨⟨rfl, (by decide)⟩, ?_⟩ | refine ⟨⟨rfl, ?_⟩, ?_⟩ | refine ⟨Or.inr rfl, ?_⟩ | refine ⟨Or.inl rfl, ?_⟩ | refine ⟨⟨⟨rfl, rfl, rfl⟩, ?_⟩, ?_⟩ | refine ⟨_, _, rfl, row_get _ _ arith, rfl, ?_⟩ | refine ⟨Or.inr (by repeat (first | exact trivial | refine ⟨rfl, ?_⟩)), ?_⟩ | refine ⟨(?_ : _ = ([] : List (List T))), ?_⟩ | fail))
    all_goals rfl
  | true =>
  by_cases hl : b.length = 24
  case neg =>
    obtain ⟨e1, e2⟩ := fin (by unfold openHead; rw [decide_eq_false hl, Bool.and_false]; rfl)
    rw [e1, e2]
    refine fn_of Tryz.func143 rfl (by kernel_rfl) rfl ?_
    all_goals repeat' (first | (with_reducible rfl) | ((conv => whnf); first | refine ⟨_, c_sIsValidKey _, ?_⟩ | refine ⟨_, c_l1In _ _ _, ?_⟩ | refine bcase_F (by rw [h1]; rfl) ?_ | refine bcase_F (by rw [h2]; rfl) ?_ | refine bcase_T (by first | (rw [bne_iff_ne]; omega) | (rw [decide_eq_true_eq]; omega)) ?_ | exact trivial | (with_reducible rfl) | exact (rfl : (0 : Int) = ((0 : Nat) : Int)) | exact w64_nat arith | refine bcase_T (by first | with_reducible rfl | decide) ?_ | refine bcase_F (by first | with_reducible rfl | decide) ?_ | refine bcase_dec (fun _ => ?_) (fun _ => ?_) | refine bcase_not ?_ | refine bcase_intro (fun _ => ?_) (fun _ => ?_) | refine ⟨(by with_reducible rfl), ?_⟩ | refine ⟨congrArg vi ?_, ?_⟩ | refine ⟨congrArg vb ?_, ?_⟩ | refine ⟨rfl, ?_⟩ | refine ⟨(by kernel_rfl : drawOK _ = true), ?_⟩ | refine Or.inl ?_ | refine ⟨⟨congrArg (T.int _) ?_, rfl⟩, ?_⟩ | refine ⟨⟨congrArg T.bool ?_, rfl⟩, ?_⟩ | refine ⟨⟨rfl, Nat.le_of_ble_eq_true rfl⟩, ?_⟩ | refine ⟨⟨rfl, rfl⟩, ?_⟩ | refine ⟨⟨rfl, (by decide)⟩, ?_⟩ | refine ⟨⟨rfl, ?_⟩, ?_⟩ | refine ⟨Or.inr rfl, ?_⟩ | refine ⟨Or.inl rfl, ?_⟩ | refine ⟨⟨⟨rfl, rfl, rfl⟩, ?_⟩, ?_⟩ | refine ⟨_, _, rfl, row_get _ _ arith, rfl, ?_⟩ | refine ⟨Or.inr (by repeat (first | exact trivial | refine ⟨rfl, ?_⟩)), ?_⟩ | refine ⟨(?_ : _ = ([] : List (List T))), ?_⟩ | fail))
    all_goals rfl
  cases h4 : (b.drop 20 == bytes4 (cellCheck k c (b.take 20))) with
  | false =>
    obtain ⟨e1, e2⟩ := fin (by unfold openHead; rw [h4, Bool.and_false])
    rw [e1, e2]
    rw [check_eq hl, decide_eq_false_iff_not] at h4
    refine fn_of Tryz.func143 rfl (by kernel_rfl) rfl ?_
    all_goals repeat' (first | (with_reducible rfl) | ((conv => whnf); first | refine ⟨_, c_sIsValidKey _, ?_⟩ | refine ⟨_, c_l1In _ _ _, ?_⟩ | refine bcase_F (by rw [h1]; rfl) ?_ | refine bcase_F (by rw [h2]; rfl) ?_ | refine bcase_F (by first | (refine bne_eq_false_iff_eq.2 ?_; omega) | (rw [decide_eq_false_iff_not]; omega)) ?_ | refine ⟨20, (b.map eU).length, rfl, rfl, ⟨(by omega), Nat.le_refl _⟩, fun r hr => lenU _ r hr, ?_⟩ | refine ⟨0, 20, rfl, rfl, ⟨Nat.zero_le _, (by omega)⟩, fun r hr => lenU _ r hr, ?_⟩ | refine ⟨20, _, rfl, row_get _ _ (by omega), rfl, ?_⟩ | refine ⟨21, _, rfl, row_get _ _ (by omega), rfl, ?_⟩ | refine ⟨22, _, rfl, row_get _ _ (by omega), rfl, ?_⟩ | refine ⟨23, _, rfl, row_get _ _ (by omega), rfl, ?_⟩ | refine ⟨(by show (0 : Int) ≤ _; decide), ?_⟩ | refine ⟨_, fn_args (c_sCellCheck k c (b.take 20) (by rw [List.length_take]; omega)) (by rw [L, List.map_take]; rfl), ?_⟩ | refine bcase_T (by rw [join4_run]; first | exact bne_iff_ne.2 h4 | (rw [decide_eq_true_eq]; exact h4)) ?_ | exact trivial | (with_reducible rfl) | exact (rfl : (0 : Int) = ((0 : Nat) : Int)) | exact w64_nat arith | refine bcase_T (by first | with_reducible rfl | decide) ?_ | refine bcase_F (by first | with_reducible rfl | decide) ?_ | refine bcase_dec (fun _ => ?_) (fun _ => ?_) | refine bcase_not ?_ | refine bcase_intro (fun _ => ?_) (fun _ => ?_) | refine ⟨(by with_reducible rfl), ?_⟩ | refine ⟨congrArg vi ?_, ?_⟩ | refine ⟨congrArg vb ?_, ?_⟩ | refine ⟨rfl, ?_⟩ | refine ⟨(by kernel_rfl : drawOK _ = true), ?_⟩ | refine Or.inl ?_ | refine ⟨⟨congrArg (T.int _) ?_, rfl⟩, ?_⟩ | refine ⟨⟨congrArg T.bool ?_, rfl⟩, ?_⟩ | refine ⟨⟨rfl, Nat.le_of_ble_eq_true rfl⟩, ?_⟩ | refine ⟨⟨rfl, rfl⟩, ?_⟩ | refine ⟨⟨rfl, (by decide)⟩, ?_⟩ | refine ⟨⟨rfl, ?_⟩, ?_⟩ | refine ⟨Or.inr rfl, ?_⟩ | refine ⟨Or.inl rfl, ?_⟩ | refine ⟨⟨⟨rfl, rfl, rfl⟩, ?_⟩, ?_⟩ | refine ⟨_, _, rfl, row_get _ _ arith, rfl, ?_⟩ | refine ⟨Or.inr (by repeat (first | exact trivial | refine ⟨rfl, ?_⟩)), ?_⟩ | refine ⟨(?_ : _ = ([] : List (List T))), ?_⟩ | fail))
    all_goals rfl
  | true =>
  have h5 := h4
  rw [check_eq hl, decide_eq_true_eq] at h5
  have hh : openHead k c b = true := by unfold openHead; rw [h1, h2, decide_eq_true hl, h4]; rfl
  have hB0 := openB_len (k := k) (c := c) hl
  have hd : decB (cellKey k c) (b.take 20) = openB k c b := rfl
  have hv : openOk k c b = (decide (((openB k c b).getD 0 0).toNat ≤ 3) && decide (((openB k c b).getD 1 0).toNat ≤ 14)) := by unfold openOk; rw [hh, Bool.true_and]
  have hw : openCell k c b = if openOk k c b then ⟨((openB k c b).getD 0 0).toNat, ((openB k c b).drop 2).take ((openB k c b).getD 1 0).toNat⟩ else ⟨0, []⟩ := rfl
  have hf := c_sDecrypt (cellKey k c) (b.take 20) (by rw [List.length_take]; omega)
  rw [hd] at hf
  generalize openB k c b = B at *
  have g0 : B.getD 0 0 = B[0] := by rw [List.getD_eq_getElem?_getD, List.getElem?_eq_getElem (by omega)]; rfl
  have g1 : B.getD 1 0 = B[1] := by rw [List.getD_eq_getElem?_getD, List.getElem?_eq_getElem (by omega)]; rfl
  rw [g0, g1] at hv hw
  have hBm : (B.map eU).length = 20 := by rw [List.length_map, hB0]
  have b0 := u8_lt B[0]
  have b1 := u8_lt B[1]
  by_cases k1 : B[1].toNat ≤ 14
  case neg =>
    have e : openOk k c b = false := by rw [hv, decide_eq_false k1, Bool.and_false]
    rw [e] at hw
    rw [hw, e]
    refine fn_of Tryz.func143 rfl (by kernel_rfl) rfl ?_
    all_goals repeat' (first | (with_reducible rfl) | ((conv => whnf); first | refine ⟨_, c_sIsValidKey _, ?_⟩ | refine ⟨_, c_l1In _ _ _, ?_⟩ | refine bcase_F (by rw [h1]; rfl) ?_ | refine bcase_F (by rw [h2]; rfl) ?_ | refine bcase_F (by first | (refine bne_eq_false_iff_eq.2 ?_; omega) | (rw [decide_eq_false_iff_not]; omega)) ?_ | refine ⟨20, (b.map eU).length, rfl, rfl, ⟨(by omega), Nat.le_refl _⟩, fun r hr => lenU _ r hr, ?_⟩ | refine ⟨0, 20, rfl, rfl, ⟨Nat.zero_le _, (by omega)⟩, fun r hr => lenU _ r hr, ?_⟩ | refine ⟨20, _, rfl, row_get _ _ (by omega), rfl, ?_⟩ | refine ⟨21, _, rfl, row_get _ _ (by omega), rfl, ?_⟩ | refine ⟨22, _, rfl, row_get _ _ (by omega), rfl, ?_⟩ | refine ⟨23, _, rfl, row_get _ _ (by omega), rfl, ?_⟩ | refine ⟨(by show (0 : Int) ≤ _; decide), ?_⟩ | refine ⟨_, fn_args (c_sCellCheck k c (b.take 20) (by rw [List.length_take]; omega)) (by rw [L, List.map_take]; rfl), ?_⟩ | refine bcase_F (by rw [join4_run]; first | exact bne_eq_false_iff_eq.2 h5 | (rw [decide_eq_false_iff_not]; exact fun h => h h5)) ?_ | refine ⟨_, c_l13Cipher k c, ?_⟩ | refine ⟨_, fn_args hf (by rw [L, List.map_take]; rfl), ?_⟩ | refine ⟨1, rfl, (by omega), ?_⟩ | refine ⟨0, rfl, (by omega), ?_⟩ | refine ⟨_, row_get _ _ (by omega), ?_⟩ | refine bcase_T (by rw [decide_eq_true_eq, wrap_byte]; omega) ?_ | refine bcase_F (by rw [decide_eq_false_iff_not, wrap_byte]; omega) ?_ | exact trivial | (with_reducible rfl) | exact (rfl : (0 : Int) = ((0 : Nat) : Int)) | exact w64_nat arith | refine bcase_T (by first | with_reducible rfl | decide) ?_ | refine bcase_F (by first | with_reducible rfl | decide) ?_ | refine bcase_dec (fun _ => ?_) (fun _ => ?_) | refine bcase_not ?_ | refine bcase_intro (fun _ => ?_) (fun _ => ?_) | refine ⟨(by with_reducible rfl), ?_⟩ | refine ⟨congrArg vi ?_, ?_⟩ | refine ⟨congrArg vb ?_, ?_⟩ | refine ⟨rfl, ?_⟩ | refine ⟨(by kernel_rfl : drawOK _ = true), ?_⟩ | refine Or.inl ?_ | refine ⟨⟨congrArg (T.int _) ?_, rfl⟩, ?_⟩ | refine ⟨⟨congrArg T.bool ?_, rfl⟩, ?_⟩ | refine ⟨⟨rfl, Nat.le_of_ble_eq_true rfl⟩, ?_⟩ | refine ⟨⟨rfl, rfl⟩, ?_⟩ | refine ⟨⟨rfl, (by decide)⟩, ?_⟩ | refine ⟨⟨rfl, ?_⟩, ?_⟩ | refine ⟨Or.inr rfl, ?_⟩ | refine ⟨Or.inl rfl, ?_⟩ | refine ⟨⟨⟨rfl, rfl, rfl⟩, ?_⟩, ?_⟩ | refine ⟨_, _, rfl, row_get _ _ arith, rfl, ?_⟩ | refine ⟨Or.inr (by repeat (first | exact trivial | refine ⟨rfl, ?_⟩)), ?_⟩ | refine ⟨(?_ : _ = ([] : List (List T))), ?_⟩ | fail))
    all_goals rfl
  by_cases k0 : B[0].toNat ≤ 3
  case neg =>
    have e : openOk k c b = false := by rw [hv, decide_eq_false k0, Bool.false_and]
    rw [e] at hw
    rw [hw, e]
    refine fn_of Tryz.func143 rfl (by kernel_rfl) rfl ?_
    all_goals repeat' (first | (with_reducible rfl) | ((conv => whnf); first | refine ⟨_, c_sIsValidKey _, ?_⟩ | refine ⟨_, c_l1In _ _ _, ?_⟩ | refine bcase_F (by rw [h1]; rfl) ?_ | refine bcase_F (by rw [h2]; rfl) ?_ | refine bcase_F (by first | (refine bne_eq_false_iff_eq.2 ?_; omega) | (rw [decide_eq_false_iff_not]; omega)) ?_ | refine ⟨20, (b.map eU).length, rfl, rfl, ⟨(by omega), Nat.le_refl _⟩, fun r hr => lenU _ r hr, ?_⟩ | refine ⟨0, 20, rfl, rfl, ⟨Nat.zero_le _, (by omega)⟩, fun r hr => lenU _ r hr, ?_⟩ | refine ⟨20, _, rfl, row_get _ _ (by omega), rfl, ?_⟩ | refine ⟨21, _, rfl, row_get _ _ (by omega), rfl, ?_⟩ | refine ⟨22, _, rfl, row_get _ _ (by omega), rfl, ?_⟩ | refine ⟨23, _, rfl, row_get _ _ (by omega), rfl, ?_⟩ | refine ⟨(by show (0 : Int) ≤ _; decide), ?_⟩ | refine ⟨_, fn_args (c_sCellCheck k c (b.take 20) (by rw [List.length_take]; omega)) (by rw [L, List.map_take]; rfl), ?_⟩ | refine bcase_F (by rw [join4_run]; first | exact bne_eq_false_iff_eq.2 h5 | (rw [decide_eq_false_iff_not]; exact fun h => h h5)) ?_ | refine ⟨_, c_l13Cipher k c, ?_⟩ | refine ⟨_, fn_args hf (by rw [L, List.map_take]; rfl), ?_⟩ | refine ⟨1, rfl, (by omega), ?_⟩ | refine ⟨0, rfl, (by omega), ?_⟩ | refine ⟨_, row_get _ _ (by omega), ?_⟩ | refine bcase_T (by rw [decide_eq_true_eq, wrap_byte]; omega) ?_ | refine bcase_F (by rw [decide_eq_false_iff_not, wrap_byte]; omega) ?_ | refine ⟨2, B[1].toNat + 2, rfl, (congrArg (fun n => some (vint .i64 n)) (show IntKind.i64.wrap (2 + IntKind.i64.wrap ((B[1].toNat : Nat) : Int)) = ((B[1].toNat + 2 : Nat) : Int) by rw [wrap_byte, w64_ok (by omega) (by omega)]; omega)), ⟨(by omega), (by omega)⟩, ?_⟩ | refine ⟨true, ⟨rfl, rfl⟩, fun _ r hr => scalU _ r (List.mem_of_mem_take (List.mem_of_mem_drop hr)), fun r hr => lenU _ r (List.mem_of_mem_take (List.mem_of_mem_drop hr)), ⟨bnd, bnd⟩, ?_⟩ | refine bcase_T (by unfold plainOk; dsimp only; rw [wrap_byte, inR_not.2 (by omega)]; rfl) ?_ | exact trivial | (with_reducible rfl) | exact (rfl : (0 : Int) = ((0 : Nat) : Int)) | exact w64_nat arith | refine bcase_T (by first | with_reducible rfl | decide) ?_ | refine bcase_F (by first | with_reducible rfl | decide) ?_ | refine bcase_dec (fun _ => ?_) (fun _ => ?_) | refine bcase_not ?_ | refine bcase_intro (fun _ => ?_) (fun _ => ?_) | refine ⟨(by with_reducible rfl), ?_⟩ | refine ⟨congrArg vi ?_, ?_⟩ | refine ⟨congrArg vb ?_, ?_⟩ | refine ⟨rfl, ?_⟩ | refine ⟨(by kernel_rfl : drawOK _ = true), ?_⟩ | refine Or.inl ?_ | refine ⟨⟨congrArg (T.int _) ?_, rfl⟩, ?_⟩ | refine ⟨⟨congrArg T.bool ?_, rfl⟩, ?_⟩ | refine ⟨⟨rfl, Nat.le_of_ble_eq_true rfl⟩, ?_⟩ | refine ⟨⟨rfl, rfl⟩, ?_⟩ | refine ⟨⟨rfl, (by decide)⟩, ?_⟩ | refine ⟨⟨rfl, ?_⟩, ?_⟩ | refine ⟨Or.inr rfl, ?_⟩ | refine ⟨Or.inl rfl, ?_⟩ | refine ⟨⟨⟨rfl, rfl, rfl⟩, ?_⟩, ?_⟩ | refine ⟨_, _, rfl, row_get _ _ arith, rfl, ?_⟩ | refine ⟨Or.inr (by repeat (first | exact trivial | refine ⟨rfl, ?_⟩)), ?_⟩ | refine ⟨(?_ : _ = ([] : List (List T))), ?_⟩ | fail))
    all_goals rfl
  have e : openOk k c b = true := by rw [hv, decide_eq_true k0, decide_eq_true k1]; rfl
  rw [e, if_pos rfl] at hw
  rw [hw, e]
  refine fn_of Tryz.func143 rfl (by kernel_rfl) rfl ?_
  all_goals repeat' (first | (with_reducible rfl) | ((conv => whnf); first | refine ⟨_, c_sIsValidKey _, ?_⟩ | refine ⟨_, c_l1In _ _ _, ?_⟩ | refine bcase_F (by rw [h1]; rfl) ?_ | refine bcase_F (by rw [h2]; rfl) ?_ | refine bcase_F (by first | (refine bne_eq_false_iff_eq.2 ?_; omega) | (rw [decide_eq_false_iff_not]; omega)) ?_ | refine ⟨20, (b.map eU).length, rfl, rfl, ⟨(by omega), Nat.le_refl _⟩, fun r hr => lenU _ r hr, ?_⟩ | refine ⟨0, 20, rfl, rfl, ⟨Nat.zero_le _, (by omega)⟩, fun r hr => lenU _ r hr, ?_⟩ | refine ⟨20, _, rfl, row_get _ _ (by omega), rfl, ?_⟩ | refine ⟨21, _, rfl, row_get _ _ (by omega), rfl, ?_⟩ | refine ⟨22, _, rfl, row_get _ _ (by omega), rfl, ?_⟩ | refine ⟨23, _, rfl, row_get _ _ (by omega), rfl, ?_⟩ | refine ⟨(by show (0 : Int) ≤ _; decide), ?_⟩ | refine ⟨_, fn_args (c_sCellCheck k c (b.take 20) (by rw [List.length_take]; omega)) (by rw [L, List.map_take]; rfl), ?_⟩ | refine bcase_F (by rw [join4_run]; first | exact bne_eq_false_iff_eq.2 h5 | (rw [decide_eq_false_iff_not]; exact fun h => h h5)) ?_ | refine ⟨_, c_l13Cipher k c, ?_⟩ | refine ⟨_, fn_args hf (by rw [L, List.map_take]; rfl), ?_⟩ | refine ⟨1, rfl, (by omega), ?_⟩ | refine ⟨0, rfl, (by omega), ?_⟩ | refine ⟨_, row_get _ _ (by omega), ?_⟩ | refine bcase_F (by rw [decide_eq_false_iff_not, wrap_byte]; omega) ?_ | refine ⟨2, B[1].toNat + 2, rfl, (congrArg (fun n => some (vint .i64 n)) (show IntKind.i64.wrap (2 + IntKind.i64.wrap ((B[1].toNat : Nat) : Int)) = ((B[1].toNat + 2 : Nat) : Int) by rw [wrap_byte, w64_ok (by omega) (by omega)]; omega)), ⟨(by omega), (by omega)⟩, ?_⟩ | refine ⟨true, ⟨rfl, rfl⟩, fun _ r hr => scalU _ r (List.mem_of_mem_take (List.mem_of_mem_drop hr)), fun r hr => lenU _ r (List.mem_of_mem_take (List.mem_of_mem_drop hr)), ⟨bnd, bnd⟩, ?_⟩ | refine bcase_F (by unfold plainOk; dsimp only; rw [wrap_byte, inR_iff.2 (by omega), decide_eq_true (by rw [List.length_take]; omega)]; rfl) ?_ | exact trivial | (with_reducible rfl) | exact (rfl : (0 : Int) = ((0 : Nat) : Int)) | exact w64_nat arith | refine bcase_T (by first | with_reducible rfl | decide) ?_ | refine bcase_F (by first | with_reducible rfl | decide) ?_ | refine bcase_dec (fun _ => ?_) (fun _ => ?_) | refine bcase_not ?_ | refine bcase_intro (fun _ => ?_) (fun _ => ?_) | refine ⟨(by with_reducible rfl), ?_⟩ | refine ⟨congrArg vi ?_, ?_⟩ | refine ⟨congrArg vb ?_, ?_⟩ | refine ⟨rfl, ?_⟩ | refine ⟨(by kernel_rfl : drawOK _ = true), ?_⟩ | refine Or.inl ?_ | refine ⟨⟨congrArg (T.int _) ?_, rfl⟩, ?_⟩ | refine ⟨⟨congrArg T.bool ?_, rfl⟩, ?_⟩ | refine ⟨⟨rfl, Nat.le_of_ble_eq_true rfl⟩, ?_⟩ | refine ⟨⟨rfl, rfl⟩, ?_⟩ | refine ⟨⟨rfl, (by decide)⟩, ?_⟩ | refine ⟨⟨rfl, ?_⟩, ?_⟩ | refine ⟨Or.inr rfl, ?_⟩ | refine ⟨Or.inl rfl, ?_⟩ | refine ⟨⟨⟨rfl, rfl, rfl⟩, ?_⟩, ?_⟩ | refine ⟨_, _, rfl, row_get _ _ arith, rfl, ?_⟩ | refine ⟨Or.inr (by repeat (first | exact trivial | refine ⟨rfl, ?_⟩)), ?_⟩ | refine ⟨(?_ : _ = ([] : List (List T))), ?_⟩ | fail))
  all_goals first
    | rfl
    | exact wrap_byte _
    | exact open_take _ _
    | (simp only [List.nil_append]; exact open_take _ _)
    | skip
end Go.Proofs.YteecgbgdmfjogaaGreat

namespace Go.Proofs.YteecgbgdmfjogaaGreat
set_option maxHeartbeats 4000000
set_option maxRecDepth 20000
open Go.Vm Go.RowKit
attribute [local irreducible] FnAt MutAt InAt JAt CurAt FnE CurE RegAt

attribute [local irreducible] openCell openOk msgCell dirKey
theorem c_sClientRead (c : DClient) (r : Int) (own other : List UInt8) (hb : bigC c) (_ : own.length ≤ 1099511627776) (ht : other.length ≤ 1099511627776) : FnAt Tryz.prog 139 [.agg (DClient.e c), .one (I r), .one (L eU own), .one (L eU other)] [.agg (DClient.r (readC c r own other)), .one (.s (.bool (readsOk c r)))] := by
  have hm : (c.Submitted.map (eL eU)).length = c.Submitted.length := List.length_map (eL eU)
  have hm2 : (c.Inbox.map (eL eU)).length = c.Inbox.length := List.length_map (eL eU)
  have hd := dir_flip c
  cases h1 : clientOk c with
  | false =>
    have e : readsOk c r = false := by unfold readsOk; rw [h1]; rfl
    have e2 : readC c r own other = c := by unfold readC; rw [e]; rfl
    rw [e, e2]
    refine fn_of Tryz.func139 rfl (by kernel_rfl) rfl ?_
    all_goals repeat' (first | (with_reducible rfl) | ((conv => whnf); first | refine ⟨_, c_l29Copy _ hb, ?_⟩ | refine ⟨_, c_sIsValidClient c hb, ?_⟩ | refine bcase_T (by rw [h1]; rfl) ?_ | exact trivial | (with_reducible rfl) | exact (rfl : (0 : Int) = ((0 : Nat) : Int)) | exact w64_nat arith | refine bcase_T (by first | with_reducible rfl | decide) ?_ | refine bcase_F (by first | with_reducible rfl | decide) ?_ | refine bcase_dec (fun _ => ?_) (fun _ => ?_) | refine bcase_not ?_ | refine bcase_intro (fun _ => ?_) (fun _ => ?_) | refine ⟨(by with_reducible rfl), ?_⟩ | refine ⟨congrArg vi ?_, ?_⟩ | refine ⟨congrArg vb ?_, ?_⟩ | refine ⟨rfl, ?_⟩ | refine ⟨(by kernel_rfl : drawOK _ = true), ?_⟩ | refine Or.inl ?_ | refine ⟨⟨congrArg (T.int _) ?_, rfl⟩, ?_⟩ | refine ⟨⟨congrArg T.bool ?_, rfl⟩, ?_⟩ | refine ⟨⟨rfl, Nat.le_of_ble_eq_true rfl⟩, ?_⟩ | refine ⟨⟨rfl, rfl⟩, ?_⟩ | refine ⟨⟨rfl, (by decide)⟩, ?_⟩ | refine ⟨⟨rfl, ?_⟩, ?_⟩ | refine ⟨Or.inr rfl, ?_⟩ | refine ⟨Or.inl rfl, ?_⟩ | refine ⟨⟨⟨rfl, rfl, rfl⟩, ?_⟩, ?_⟩ | refine ⟨_, _, rfl, row_get _ _ arith, rfl, ?_⟩ | refine ⟨Or.inr (by repeat (first | exact trivial | refine ⟨rfl, ?_⟩)), ?_⟩ | refine ⟨(?_ : _ = ([] : List (List T))), ?_⟩ | fail))
    all_goals rfl
  | true =>
  cases h2 : inR r c.Next 99999 with
  | false =>
    have e : readsOk c r = false := by unfold readsOk; rw [h2, Bool.and_false]
    have e2 : readC c r own other = c := by unfold readC; rw [e]; rfl
    rw [e, e2]
    refine fn_of Tryz.func139 rfl (by kernel_rfl) rfl ?_
    all_goals repeat' (first | (with_reducible rfl) | ((conv => whnf); first | refine ⟨_, c_l29Copy _ hb, ?_⟩ | refine ⟨_, c_sIsValidClient c hb, ?_⟩ | refine ⟨_, c_l1In _ _ _, ?_⟩ | refine bcase_F (by rw [h1]; rfl) ?_ | refine bcase_T (by rw [h2]; rfl) ?_ | exact trivial | (with_reducible rfl) | exact (rfl : (0 : Int) = ((0 : Nat) : Int)) | exact w64_nat arith | refine bcase_T (by first | with_reducible rfl | decide) ?_ | refine bcase_F (by first | with_reducible rfl | decide) ?_ | refine bcase_dec (fun _ => ?_) (fun _ => ?_) | refine bcase_not ?_ | refine bcase_intro (fun _ => ?_) (fun _ => ?_) | refine ⟨(by with_reducible rfl), ?_⟩ | refine ⟨congrArg vi ?_, ?_⟩ | refine ⟨congrArg vb ?_, ?_⟩ | refine ⟨rfl, ?_⟩ | refine ⟨(by kernel_rfl : drawOK _ = true), ?_⟩ | refine Or.inl ?_ | refine ⟨⟨congrArg (T.int _) ?_, rfl⟩, ?_⟩ | refine ⟨⟨congrArg T.bool ?_, rfl⟩, ?_⟩ | refine ⟨⟨rfl, Nat.le_of_ble_eq_true rfl⟩, ?_⟩ | refine ⟨⟨rfl, rfl⟩, ?_⟩ | refine ⟨⟨rfl, (by decide)⟩, ?_⟩ | refine ⟨⟨rfl, ?_⟩, ?_⟩ | refine ⟨Or.inr rfl, ?_⟩ | refine ⟨Or.inl rfl, ?_⟩ | refine ⟨⟨⟨rfl, rfl, rfl⟩, ?_⟩, ?_⟩ | refine ⟨_, _, rfl, row_get _ _ arith, rfl, ?_⟩ | refine ⟨Or.inr (by repeat (first | exact trivial | refine ⟨rfl, ?_⟩)), ?_⟩ | refine ⟨(?_ : _ = ([] : List (List T))), ?_⟩ | fail))
    all_goals rfl
  | true =>
  have hr := inR_iff.1 h2
  have h0 := clientOk_sent h1
  have hn := clientOk_next h1
  have e : readsOk c r = true := by unfold readsOk; rw [h1, h2]; rfl
  have hlow : ∀ h : c.Sent.toNat < c.Submitted.length, c.Submitted[c.Sent.toNat].length ≤ 1048576 := fun h => by have := clientOk_body h1 h; omega
  have e2 : readC c r own other = { c with Sent := readSent c own, Inbox := readInbox c other, Next := r + 1 } := by unfold readC; rw [e]; rfl
  have e3 : readInbox c other = if readTake c other then c.Inbox ++ [(readOpen c other).Body] else c.Inbox := rfl
  have e4 : readTake c other = (openOk (dirKey c.Key (1 - dirOf c)) c.Inbox.length other && decide ((readOpen c other).Kind = 1) && decide ((c.Inbox.length : Int) < 16)) := rfl
  have e5 : readSent c own = if h : c.Sent.toNat < c.Submitted.length then (if own == msgCell c h then c.Sent + 1 else c.Sent) else c.Sent := rfl
  have hl40 := hb.1.1
  have t0 : readOpen c other = openCell (dirKey c.Key (1 - dirOf c)) c.Inbox.length other := rfl
  have t1 : openOk (dirKey c.Key (1 - dirOf c)) c.Inbox.length other = true → (openCell (dirKey c.Key (1 - dirOf c)) c.Inbox.length other).Kind = 1 → ((c.Inbox.map (eL eU)).length : Int) < 16 → readInbox c other = c.Inbox ++ [(openCell (dirKey c.Key (1 - dirOf c)) c.Inbox.length other).Body] := fun q1 q2 q3 => by
    rw [e3, e4, t0, q1, decide_eq_true q2, decide_eq_true (by rw [← hm2]; exact q3)]; rfl
  have t2 : openOk (dirKey c.Key (1 - dirOf c)) c.Inbox.length other = false → readInbox c other = c.Inbox := fun q => by rw [e3, e4, q]; rfl
  have t3 : ¬ (openCell (dirKey c.Key (1 - dirOf c)) c.Inbox.length other).Kind = 1 → readInbox c other = c.Inbox := fun q => by rw [e3, e4, t0, decide_eq_false q, Bool.and_false]; rfl
  have t4 : ¬ ((c.Inbox.map (eL eU)).length : Int) < 16 → readInbox c other = c.Inbox := fun q => by rw [e3, e4, decide_eq_false (p := (c.Inbox.length : Int) < 16) (by rw [← hm2]; exact q), Bool.and_false]; rfl
  have t5 : ∀ h : c.Sent.toNat < c.Submitted.length, (own == msgCell c h) = true → IntKind.i64.wrap (c.Sent + 1) = readSent c own := fun h q => by rw [e5, dif_pos h, if_pos q, w64_ok (by omega) (by omega)]
  have t6 : ∀ h : c.Sent.toNat < c.Submitted.length, (own == msgCell c h) = false → c.Sent = readSent c own := fun h q => by rw [e5, dif_pos h, if_neg (by rw [q]; decide)]
  have t7 : ¬ c.Sent.toNat < c.Submitted.length → c.Sent = readSent c own := fun h => by rw [e5, dif_neg h]
  have t8 : IntKind.i64.wrap (r + 1) = r + 1 := w64_ok (by omega) (by omega)
  clear e3 e4 e5
  rw [e, e2]
  by_cases hs : c.Sent.toNat < c.Submitted.length
  case pos =>
    have hlo := hlow hs
    refine fn_of Tryz.func139 rfl (by kernel_rfl) rfl ?_
    all_goals repeat' (first | (with_reducible rfl) | ((conv => whnf); first | refine ⟨_, c_l29Copy _ hb, ?_⟩ | refine ⟨_, c_sIsValidClient c hb, ?_⟩ | refine ⟨_, c_l1In _ _ _, ?_⟩ | refine bcase_F (by rw [h1]; rfl) ?_ | refine bcase_F (by rw [h2]; rfl) ?_ | refine bcase_T (by rw [decide_eq_true_eq]; omega) ?_ | refine ⟨_, c_l29Cell c h0 hs hb hlo, ?_⟩ | refine ⟨_, c_sEqualBytes own (msgCell c hs), ?_⟩ | refine ⟨_, c_l29Direction c, ?_⟩ | (rw [hd]; refine ⟨_, c_sDirectionKey _ _, ?_⟩) | refine ⟨_, fn_args (c_sOpenCell (dirKey c.Key (1 - dirOf c)) c.Inbox.length other ht) (by rw [hm2]; rfl), ?_⟩ | refine ⟨⟨bnd, bnd⟩, ?_⟩ | exact trivial | (with_reducible rfl) | exact (rfl : (0 : Int) = ((0 : Nat) : Int)) | exact w64_nat arith | refine bcase_T (by first | with_reducible rfl | decide) ?_ | refine bcase_F (by first | with_reducible rfl | decide) ?_ | refine bcase_dec (fun _ => ?_) (fun _ => ?_) | refine bcase_not ?_ | refine bcase_intro (fun _ => ?_) (fun _ => ?_) | refine ⟨(by with_reducible rfl), ?_⟩ | refine ⟨congrArg vi ?_, ?_⟩ | refine ⟨congrArg vb ?_, ?_⟩ | refine ⟨rfl, ?_⟩ | refine ⟨(by kernel_rfl : drawOK _ = true), ?_⟩ | refine Or.inl ?_ | refine ⟨⟨congrArg (T.int _) ?_, rfl⟩, ?_⟩ | refine ⟨⟨congrArg T.bool ?_, rfl⟩, ?_⟩ | refine ⟨⟨rfl, Nat.le_of_ble_eq_true rfl⟩, ?_⟩ | refine ⟨⟨rfl, rfl⟩, ?_⟩ | refine ⟨⟨rfl, (by decide)⟩, ?_⟩ | refine ⟨⟨rfl, ?_⟩, ?_⟩ | refine ⟨Or.inr rfl, ?_⟩ | refine ⟨Or.inl rfl, ?_⟩ | refine ⟨⟨⟨rfl, rfl, rfl⟩, ?_⟩, ?_⟩ | refine ⟨_, _, rfl, row_get _ _ arith, rfl, ?_⟩ | refine ⟨Or.inr (by repeat (first | exact trivial | refine ⟨rfl, ?_⟩)), ?_⟩ | refine ⟨(?_ : _ = ([] : List (List T))), ?_⟩ | fail))
    all_goals first
      | rfl
      | (exfalso; omega)
      | exact t5 hs (by assumption)
      | exact t6 hs (by assumption)
      | exact t7 hs
      | exact t8
      | (show _ = List.map (eL eU) (readInbox c other); rw [t2 (by assumption)]; done)
      | (show _ = List.map (eL eU) (readInbox c other); rw [t3 (by assumption)]; done)
      | (show _ = List.map (eL eU) (readInbox c other); rw [t4 (by assumption)]; done)
      | (show _ = List.map (eL eU) (readInbox c other); rw [t1 (by assumption) (by assumption) (by assumption), List.map_append]; rfl)
      | skip
  refine fn_of Tryz.func139 rfl (by kernel_rfl) rfl ?_
  all_goals repeat' (first | (with_reducible rfl) | ((conv => whnf); first | refine ⟨_, c_l29Copy _ hb, ?_⟩ | refine ⟨_, c_sIsValidClient c hb, ?_⟩ | refine ⟨_, c_l1In _ _ _, ?_⟩ | refine bcase_F (by rw [h1]; rfl) ?_ | refine bcase_F (by rw [h2]; rfl) ?_ | refine bcase_F (by rw [decide_eq_false_iff_not]; omega) ?_ | refine ⟨_, c_l29Direction c, ?_⟩ | (rw [hd]; refine ⟨_, c_sDirectionKey _ _, ?_⟩) | refine ⟨_, fn_args (c_sOpenCell (dirKey c.Key (1 - dirOf c)) c.Inbox.length other ht) (by rw [hm2]; rfl), ?_⟩ | refine ⟨⟨bnd, bnd⟩, ?_⟩ | exact trivial | (with_reducible rfl) | exact (rfl : (0 : Int) = ((0 : Nat) : Int)) | exact w64_nat arith | refine bcase_T (by first | with_reducible rfl | decide) ?_ | refine bcase_F (by first | with_reducible rfl | decide) ?_ | refine bcase_dec (fun _ => ?_) (fun _ => ?_) | refine bcase_not ?_ | refine bcase_intro (fun _ => ?_) (fun _ => ?_) | refine ⟨(by with_reducible rfl), ?_⟩ | refine ⟨congrArg vi ?_, ?_⟩ | refine ⟨congrArg vb ?_, ?_⟩ | refine ⟨rfl, ?_⟩ | refine ⟨(by kernel_rfl : drawOK _ = true), ?_⟩ | refine Or.inl ?_ | refine ⟨⟨congrArg (T.int _) ?_, rfl⟩, ?_⟩ | refine ⟨⟨congrArg T.bool ?_, rfl⟩, ?_⟩ | refine ⟨⟨rfl, Nat.le_of_ble_eq_true rfl⟩, ?_⟩ | refine ⟨⟨rfl, rfl⟩, ?_⟩ | refine ⟨⟨rfl, (by decide)⟩, ?_⟩ | refine ⟨⟨rfl, ?_⟩, ?_⟩ | refine ⟨Or.inr rfl, ?_⟩ | refine ⟨Or.inl rfl, ?_⟩ | refine ⟨⟨⟨rfl, rfl, rfl⟩, ?_⟩, ?_⟩ | refine ⟨_, _, rfl, row_get _ _ arith, rfl, ?_⟩ | refine ⟨Or.inr (by repeat (first | exact trivial | refine ⟨rfl, ?_⟩)), ?_⟩ | refine ⟨(?_ : _ = ([] : List (List T))), ?_⟩ | fail))
  all_goals first
    | rfl
    | (exfalso; omega)
    | exact t5 hs (by assumption)
    | exact t6 hs (by assumption)
    | exact t7 hs
    | exact t8
    | (show _ = List.map (eL eU) (readInbox c other); rw [t2 (by assumption)]; done)
    | (show _ = List.map (eL eU) (readInbox c other); rw [t3 (by assumption)]; done)
    | (show _ = List.map (eL eU) (readInbox c other); rw [t4 (by assumption)]; done)
    | (show _ = List.map (eL eU) (readInbox c other); rw [t1 (by assumption) (by assumption) (by assumption), List.map_append]; rfl)
    | skip
end Go.Proofs.YteecgbgdmfjogaaGreat
