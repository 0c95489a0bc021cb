/-
  Contracts: streams, ciphers, checks of cells.
  Conditions: none.
-/
import Derived.Test.YteecgbgdmfjogaaGreatFnL
import Derived.Test.YteecgbgdmfjogaaGreatFnK
import Derived.Test.YteecgbgdmfjogaaGreatVmAc
namespace Go.Proofs.YteecgbgdmfjogaaGreat
set_option maxHeartbeats 4000000
set_option maxRecDepth 20000
open Go.Vm Go.RowKit
attribute [local irreducible] FnAt MutAt InAt JAt CurAt FnE CurE RegAt

theorem strm_run (s : Int) {i : Nat} (h : i ≤ 400) : IntKind.u8.wrap (IntKind.i64.wrap ((child s (IntKind.i64.wrap (100 + (i : Int)))).tdiv 256)) = ((Vm.byteOf (child s (100 + (i : Int)) / 256)).toNat : Int) := by
  have hr := child_range s (100 + (i : Int))
  rw [w64_ok (n := 100 + (i : Int)) (by omega) (by omega), Int.tdiv_eq_ediv_of_nonneg hr.1, w64_ok (by omega) (by omega), u8_wrap]
theorem stream_T {s n : Int} (h : inR n 0 400 = true) : stream s n = strm s n.toNat := by unfold stream; rw [if_pos (inR_iff.1 h)]
theorem stream_F {s n : Int} (h : inR n 0 400 = false) : stream s n = [] := by unfold stream; rw [if_neg (inR_not.1 h)]
theorem part_getU {f : Nat → UInt8 → UInt8} {b : List UInt8} {i : Nat} (h : i < b.length) : ((Vm.part f b i).map eU)[i]? = some (eU b[i]) := by rw [List.getElem?_map, part_get h]; rfl
theorem part_setU {f : Nat → UInt8 → UInt8} {b : List UInt8} {i : Nat} (h : i < b.length) : ((Vm.part f b i).map eU).set i (eU (f i b[i])) = (Vm.part f b (i + 1)).map eU := by rw [← part_set h, List.map_set]
theorem encB_take (k : Int) (b : List UInt8) {i : Nat} (h : i < b.length) : (encB k b).take (i + 1) = (encB k b).take i ++ [Vm.byteOf ((b[i].toNat : Int) + khash k [(i : Int)])] := by
  rw [List.take_succ_eq_append_getElem (by rw [encB_len]; exact h)]
  unfold encB
  simp
theorem decB_take (k : Int) (b : List UInt8) {i : Nat} (h : i < b.length) : (decB k b).take (i + 1) = (decB k b).take i ++ [Vm.byteOf ((b[i].toNat : Int) - khash k [(i : Int)])] := by
  rw [List.take_succ_eq_append_getElem (by rw [decB_len]; exact h)]
  unfold decB
  simp
theorem encB_part (k : Int) (b : List UInt8) {i : Nat} (h : b.length ≤ i) : Vm.part (fun i x => Vm.byteOf ((x.toNat : Int) + khash k [(i : Int)])) b i = encB k b := by rw [part_all h]; unfold encB; rfl
theorem decB_part (k : Int) (b : List UInt8) {i : Nat} (h : b.length ≤ i) : Vm.part (fun i x => Vm.byteOf ((x.toNat : Int) - khash k [(i : Int)])) b i = decB k b := by rw [part_all h]; unfold decB; rfl
attribute [local irreducible] Vm.part Vm.byteOf
theorem c_sStreamBytes (s n : Int) : FnAt Tryz.prog 135 [.one (I s), .one (I n)] [.one (.l 1 ((stream s n).map eU))] := by
  by_cases hc : inR n 0 400 = true
  · have h9 := inR_iff.1 hc
    rw [stream_T hc]
    obtain ⟨m, rfl⟩ := Int.eq_ofNat_of_zero_le h9.1
    rw [Int.toNat_natCast]
    refine fn_of Tryz.func135 rfl (by kernel_rfl) rfl ?_
    all_goals repeat' (first | (with_reducible rfl) | ((conv => whnf); first | refine ⟨(by decide), ?_⟩ | exact trivial | (with_reducible rfl) | exact (rfl : (0 : Int) = ((0 : Nat) : Int)) | exact w64_nat arith | refine bcase_T (by first | with_reducible rfl | decide) ?_ | refine bcase_F (by first | with_reducible rfl | decide) ?_ | refine bcase_dec (fun _ => ?_) (fun _ => ?_) | refine bcase_not ?_ | refine bcase_intro (fun _ => ?_) (fun _ => ?_) | refine ⟨(by with_reducible rfl), ?_⟩ | refine ⟨congrArg vi ?_, ?_⟩ | refine ⟨congrArg vb ?_, ?_⟩ | refine ⟨rfl, ?_⟩ | refine ⟨(by kernel_rfl : drawOK _ = true), ?_⟩ | refine Or.inl ?_ | refine ⟨⟨congrArg (T.int _) ?_, rfl⟩, ?_⟩ | refine ⟨⟨congrArg T.bool ?_, rfl⟩, ?_⟩ | refine ⟨⟨rfl, Nat.le_of_ble_eq_true rfl⟩, ?_⟩ | refine ⟨⟨rfl, rfl⟩, ?_⟩ | refine ⟨⟨rfl, (by decide)⟩, ?_⟩ | refine ⟨⟨rfl, ?_⟩, ?_⟩ | refine ⟨Or.inr rfl, ?_⟩ | refine ⟨Or.inl rfl, ?_⟩ | refine ⟨⟨⟨rfl, rfl, rfl⟩, ?_⟩, ?_⟩ | refine ⟨_, _, rfl, row_get _ _ arith, rfl, ?_⟩ | refine ⟨Or.inr (by repeat (first | exact trivial | refine ⟨rfl, ?_⟩)), ?_⟩ | refine ⟨(?_ : _ = ([] : List (List T))), ?_⟩ | fail))
    conv => whnf
    refine ⟨Nat, fun i => i ≤ m, fun i => ⟨[(0, vi s), (1, vi m), (5, .c (.ref 0)), (6, vi i)], [(0, .row true true 1 ((strm s i).map eU))], 1⟩, fun i => m - i, 0, Nat.zero_le _, sub_at [(0, 5)] rfl rfl rfl ?_ ?_, fun i (hi : i ≤ m) => ?_⟩
    all_goals repeat' (first | (with_reducible rfl) | ((conv => whnf); first | exact trivial | (with_reducible rfl) | exact (rfl : (0 : Int) = ((0 : Nat) : Int)) | exact w64_nat arith | refine bcase_T (by first | with_reducible rfl | decide) ?_ | refine bcase_F (by first | with_reducible rfl | decide) ?_ | refine bcase_dec (fun _ => ?_) (fun _ => ?_) | refine bcase_not ?_ | refine bcase_intro (fun _ => ?_) (fun _ => ?_) | refine ⟨(by with_reducible rfl), ?_⟩ | refine ⟨congrArg vi ?_, ?_⟩ | refine ⟨congrArg vb ?_, ?_⟩ | refine ⟨rfl, ?_⟩ | refine ⟨(by kernel_rfl : drawOK _ = true), ?_⟩ | refine Or.inl ?_ | refine ⟨⟨congrArg (T.int _) ?_, rfl⟩, ?_⟩ | refine ⟨⟨congrArg T.bool ?_, rfl⟩, ?_⟩ | refine ⟨⟨rfl, Nat.le_of_ble_eq_true rfl⟩, ?_⟩ | refine ⟨⟨rfl, rfl⟩, ?_⟩ | refine ⟨⟨rfl, (by decide)⟩, ?_⟩ | refine ⟨⟨rfl, ?_⟩, ?_⟩ | refine ⟨Or.inr rfl, ?_⟩ | refine ⟨Or.inl rfl, ?_⟩ | refine ⟨⟨⟨rfl, rfl, rfl⟩, ?_⟩, ?_⟩ | refine ⟨_, _, rfl, row_get _ _ arith, rfl, ?_⟩ | refine ⟨Or.inr (by repeat (first | exact trivial | refine ⟨rfl, ?_⟩)), ?_⟩ | refine ⟨(?_ : _ = ([] : List (List T))), ?_⟩ | refine ⟨_, c_sChildSeed _ _, ?_⟩ | refine ⟨(by decide), ?_⟩ | (have h8 := strm_len s i; refine ⟨true, fun _ => (by simp [isScal]), ⟨rfl, rfl⟩, ⟨bnd, bnd⟩, ?_⟩) | refine ⟨i + 1, ⟨arith, arith⟩, sub_at [(0, 5)] rfl rfl rfl ?_ ?_⟩ | fail))
    all_goals first
      | (rw [strm_succ, List.map_append, List.map_cons, List.map_nil, strm_run s (by omega)]; rfl)
      | (have e : i = m := (by omega); subst e; rfl)
      | (unfold strm; rfl)
      | skip
  · rw [stream_F (eq_false_of_ne_true hc)]
    have h9 : ¬ (0 ≤ n ∧ n ≤ 400) := fun h => hc (inR_iff.2 h)
    refine fn_of Tryz.func135 rfl (by kernel_rfl) rfl ?_
    all_goals repeat' (first | (with_reducible rfl) | ((conv => whnf); first | refine ⟨(by decide), ?_⟩ | exact trivial | (with_reducible rfl) | exact (rfl : (0 : Int) = ((0 : Nat) : Int)) | exact w64_nat arith | refine bcase_T (by first | with_reducible rfl | decide) ?_ | refine bcase_F (by first | with_reducible rfl | decide) ?_ | refine bcase_dec (fun _ => ?_) (fun _ => ?_) | refine bcase_not ?_ | refine bcase_intro (fun _ => ?_) (fun _ => ?_) | refine ⟨(by with_reducible rfl), ?_⟩ | refine ⟨congrArg vi ?_, ?_⟩ | refine ⟨congrArg vb ?_, ?_⟩ | refine ⟨rfl, ?_⟩ | refine ⟨(by kernel_rfl : drawOK _ = true), ?_⟩ | refine Or.inl ?_ | refine ⟨⟨congrArg (T.int _) ?_, rfl⟩, ?_⟩ | refine ⟨⟨congrArg T.bool ?_, rfl⟩, ?_⟩ | refine ⟨⟨rfl, Nat.le_of_ble_eq_true rfl⟩, ?_⟩ | refine ⟨⟨rfl, rfl⟩, ?_⟩ | refine ⟨⟨rfl, (by decide)⟩, ?_⟩ | refine ⟨⟨rfl, ?_⟩, ?_⟩ | refine ⟨Or.inr rfl, ?_⟩ | refine ⟨Or.inl rfl, ?_⟩ | refine ⟨⟨⟨rfl, rfl, rfl⟩, ?_⟩, ?_⟩ | refine ⟨_, _, rfl, row_get _ _ arith, rfl, ?_⟩ | refine ⟨Or.inr (by repeat (first | exact trivial | refine ⟨rfl, ?_⟩)), ?_⟩ | refine ⟨(?_ : _ = ([] : List (List T))), ?_⟩ | fail))
    conv => whnf
    refine ⟨Nat, fun i => i = 0, fun i => ⟨[(0, vi s), (1, vi n), (5, .c (.ref 0)), (6, vi i)], [(0, .row true true 1 [])], 1⟩, fun i => 0, 0, rfl, sub_at [(0, 5)] rfl rfl rfl ?_ ?_, fun i (hi : i = 0) => ?_⟩
    all_goals repeat' (first | (with_reducible rfl) | ((conv => whnf); first | exact trivial | (with_reducible rfl) | exact (rfl : (0 : Int) = ((0 : Nat) : Int)) | exact w64_nat arith | refine bcase_T (by first | with_reducible rfl | decide) ?_ | refine bcase_F (by first | with_reducible rfl | decide) ?_ | refine bcase_dec (fun _ => ?_) (fun _ => ?_) | refine bcase_not ?_ | refine bcase_intro (fun _ => ?_) (fun _ => ?_) | refine ⟨(by with_reducible rfl), ?_⟩ | refine ⟨congrArg vi ?_, ?_⟩ | refine ⟨congrArg vb ?_, ?_⟩ | refine ⟨rfl, ?_⟩ | refine ⟨(by kernel_rfl : drawOK _ = true), ?_⟩ | refine Or.inl ?_ | refine ⟨⟨congrArg (T.int _) ?_, rfl⟩, ?_⟩ | refine ⟨⟨congrArg T.bool ?_, rfl⟩, ?_⟩ | refine ⟨⟨rfl, Nat.le_of_ble_eq_true rfl⟩, ?_⟩ | refine ⟨⟨rfl, rfl⟩, ?_⟩ | refine ⟨⟨rfl, (by decide)⟩, ?_⟩ | refine ⟨⟨rfl, ?_⟩, ?_⟩ | refine ⟨Or.inr rfl, ?_⟩ | refine ⟨Or.inl rfl, ?_⟩ | refine ⟨⟨⟨rfl, rfl, rfl⟩, ?_⟩, ?_⟩ | refine ⟨_, _, rfl, row_get _ _ arith, rfl, ?_⟩ | refine ⟨Or.inr (by repeat (first | exact trivial | refine ⟨rfl, ?_⟩)), ?_⟩ | refine ⟨(?_ : _ = ([] : List (List T))), ?_⟩ | refine ⟨(by decide), ?_⟩ | fail))
    all_goals first
      | rfl
      | (exfalso; omega)
      | skip
theorem c_sEncrypt (k : Int) (b : List UInt8) (hb : b.length ≤ 1099511627776) : FnAt Tryz.prog 136 [.one (I k), .one (L eU b)] [.one (.l 1 ((encB k b).map eU))] := by
  have hm : (b.map eU).length = b.length := List.length_map eU
  have hl := encB_len k b
  refine fn_of Tryz.func136 rfl (by kernel_rfl) rfl ?_
  all_goals repeat' (first | (with_reducible rfl) | ((conv => whnf); first | exact trivial | (with_reducible rfl) | exact (rfl : (0 : Int) = ((0 : Nat) : Int)) | exact w64_nat arith | refine bcase_T (by first | with_reducible rfl | decide) ?_ | refine bcase_F (by first | with_reducible rfl | decide) ?_ | refine bcase_dec (fun _ => ?_) (fun _ => ?_) | refine bcase_not ?_ | refine bcase_intro (fun _ => ?_) (fun _ => ?_) | refine ⟨(by with_reducible rfl), ?_⟩ | refine ⟨congrArg vi ?_, ?_⟩ | refine ⟨congrArg vb ?_, ?_⟩ | refine ⟨rfl, ?_⟩ | refine ⟨(by kernel_rfl : drawOK _ = true), ?_⟩ | refine Or.inl ?_ | refine ⟨⟨congrArg (T.int _) ?_, rfl⟩, ?_⟩ | refine ⟨⟨congrArg T.bool ?_, rfl⟩, ?_⟩ | refine ⟨⟨rfl, Nat.le_of_ble_eq_true rfl⟩, ?_⟩ | refine ⟨⟨rfl, rfl⟩, ?_⟩ | refine ⟨⟨rfl, (by decide)⟩, ?_⟩ | refine ⟨⟨rfl, ?_⟩, ?_⟩ | refine ⟨Or.inr rfl, ?_⟩ | refine ⟨Or.inl rfl, ?_⟩ | refine ⟨⟨⟨rfl, rfl, rfl⟩, ?_⟩, ?_⟩ | refine ⟨_, _, rfl, row_get _ _ arith, rfl, ?_⟩ | refine ⟨Or.inr (by repeat (first | exact trivial | refine ⟨rfl, ?_⟩)), ?_⟩ | refine ⟨(?_ : _ = ([] : List (List T))), ?_⟩ | fail))
  conv => whnf
  refine ⟨Nat, fun i => i ≤ b.length, fun i => ⟨[(0, vi k), (1, vl (b.map eU)), (5, .c (.ref 0)), (6, vi i)], [(0, .row true true 1 (((encB k b).take i).map eU))], 1⟩, fun i => b.length - i, 0, Nat.zero_le _, sub_at [(0, 5)] rfl rfl rfl ?_ ?_, fun i (hi : i ≤ b.length) => ?_⟩
  all_goals repeat' (first | (with_reducible rfl) | ((conv => whnf); first | exact trivial | (with_reducible rfl) | exact (rfl : (0 : Int) = ((0 : Nat) : Int)) | exact w64_nat arith | refine bcase_T (by first | with_reducible rfl | decide) ?_ | refine bcase_F (by first | with_reducible rfl | decide) ?_ | refine bcase_dec (fun _ => ?_) (fun _ => ?_) | refine bcase_not ?_ | refine bcase_intro (fun _ => ?_) (fun _ => ?_) | refine ⟨(by with_reducible rfl), ?_⟩ | refine ⟨congrArg vi ?_, ?_⟩ | refine ⟨congrArg vb ?_, ?_⟩ | refine ⟨rfl, ?_⟩ | refine ⟨(by kernel_rfl : drawOK _ = true), ?_⟩ | refine Or.inl ?_ | refine ⟨⟨congrArg (T.int _) ?_, rfl⟩, ?_⟩ | refine ⟨⟨congrArg T.bool ?_, rfl⟩, ?_⟩ | refine ⟨⟨rfl, Nat.le_of_ble_eq_true rfl⟩, ?_⟩ | refine ⟨⟨rfl, rfl⟩, ?_⟩ | refine ⟨⟨rfl, (by decide)⟩, ?_⟩ | refine ⟨⟨rfl, ?_⟩, ?_⟩ | refine ⟨Or.inr rfl, ?_⟩ | refine ⟨Or.inl rfl, ?_⟩ | refine ⟨⟨⟨rfl, rfl, rfl⟩, ?_⟩, ?_⟩ | refine ⟨_, _, rfl, row_get _ _ arith, rfl, ?_⟩ | refine ⟨Or.inr (by repeat (first | exact trivial | refine ⟨rfl, ?_⟩)), ?_⟩ | refine ⟨(?_ : _ = ([] : List (List T))), ?_⟩ | refine ⟨_, c_sKeyedHash k [(i : Int)] (by simp), ?_⟩ | refine ⟨(by decide), ?_⟩ | refine ⟨i, _, rfl, row_get _ _ (by omega), rfl, ?_⟩ | refine ⟨true, fun _ => (by simp [isScal]), ⟨rfl, rfl⟩, ⟨bnd, bnd⟩, ?_⟩ | refine ⟨i + 1, ⟨arith, arith⟩, sub_at [(0, 5)] rfl rfl rfl ?_ ?_⟩ | fail))
  all_goals first
    | (rw [encB_take k b (by omega), List.map_append, List.map_cons, List.map_nil]; show _ ++ [[T.int .u8 (IntKind.u8.wrap ((IntKind.i64.wrap (IntKind.i64.wrap (b[i].toNat : Int) + (khash k [(i : Int)]).tmod 256)).tmod 256))]] = _; rw [enc_run2]; rfl)
    | (rw [List.take_of_length_le (by omega)]; done)
    | (simp; done)
    | skip
theorem c_sDecrypt (k : Int) (b : List UInt8) (hb : b.length ≤ 1099511627776) : FnAt Tryz.prog 144 [.one (I k), .one (L eU b)] [.one (.l 1 ((decB k b).map eU))] := by
  have hm : (b.map eU).length = b.length := List.length_map eU
  have hl := decB_len k b
  refine fn_of Tryz.func144 rfl (by kernel_rfl) rfl ?_
  all_goals repeat' (first | (with_reducible rfl) | ((conv => whnf); first | exact trivial | (with_reducible rfl) | exact (rfl : (0 : Int) = ((0 : Nat) : Int)) | exact w64_nat arith | refine bcase_T (by first | with_reducible rfl | decide) ?_ | refine bcase_F (by first | with_reducible rfl | decide) ?_ | refine bcase_dec (fun _ => ?_) (fun _ => ?_) | refine bcase_not ?_ | refine bcase_intro (fun _ => ?_) (fun _ => ?_) | refine ⟨(by with_reducible rfl), ?_⟩ | refine ⟨congrArg vi ?_, ?_⟩ | refine ⟨congrArg vb ?_, ?_⟩ | refine ⟨rfl, ?_⟩ | refine ⟨(by kernel_rfl : drawOK _ = true), ?_⟩ | refine Or.inl ?_ | refine ⟨⟨congrArg (T.int _) ?_, rfl⟩, ?_⟩ | refine ⟨⟨congrArg T.bool ?_, rfl⟩, ?_⟩ | refine ⟨⟨rfl, Nat.le_of_ble_eq_true rfl⟩, ?_⟩ | refine ⟨⟨rfl, rfl⟩, ?_⟩ | refine ⟨⟨rfl, (by decide)⟩, ?_⟩ | refine ⟨⟨rfl, ?_⟩, ?_⟩ | refine ⟨Or.inr rfl, ?_⟩ | refine ⟨Or.inl rfl, ?_⟩ | refine ⟨⟨⟨rfl, rfl, rfl⟩, ?_⟩, ?_⟩ | refine ⟨_, _, rfl, row_get _ _ arith, rfl, ?_⟩ | refine ⟨Or.inr (by repeat (first | exact trivial | refine ⟨rfl, ?_⟩)), ?_⟩ | refine ⟨(?_ : _ = ([] : List (List T))), ?_⟩ | fail))
  conv => whnf
  refine ⟨Nat, fun i => i ≤ b.length, fun i => ⟨[(0, vi k), (1, vl (b.map eU)), (5, .c (.ref 0)), (6, vi i)], [(0, .row true true 1 (((decB k b).take i).map eU))], 1⟩, fun i => b.length - i, 0, Nat.zero_le _, sub_at [(0, 5)] rfl rfl rfl ?_ ?_, fun i (hi : i ≤ b.length) => ?_⟩
  all_goals repeat' (first | (with_reducible rfl) | ((conv => whnf); first | exact trivial | (with_reducible rfl) | exact (rfl : (0 : Int) = ((0 : Nat) : Int)) | exact w64_nat arith | refine bcase_T (by first | with_reducible rfl | decide) ?_ | refine bcase_F (by first | with_reducible rfl | decide) ?_ | refine bcase_dec (fun _ => ?_) (fun _ => ?_) | refine bcase_not ?_ | refine bcase_intro (fun _ => ?_) (fun _ => ?_) | refine ⟨(by with_reducible rfl), ?_⟩ | refine ⟨congrArg vi ?_, ?_⟩ | refine ⟨congrArg vb ?_, ?_⟩ | refine ⟨rfl, ?_⟩ | refine ⟨(by kernel_rfl : drawOK _ = true), ?_⟩ | refine Or.inl ?_ | refine ⟨⟨congrArg (T.int _) ?_, rfl⟩, ?_⟩ | refine ⟨⟨congrArg T.bool ?_, rfl⟩, ?_⟩ | refine ⟨⟨rfl, Nat.le_of_ble_eq_true rfl⟩, ?_⟩ | refine ⟨⟨rfl, rfl⟩, ?_⟩ | refine ⟨⟨rfl, (by decide)⟩, ?_⟩ | refine ⟨⟨rfl, ?_⟩, ?_⟩ | refine ⟨Or.inr rfl, ?_⟩ | refine ⟨Or.inl rfl, ?_⟩ | refine ⟨⟨⟨rfl, rfl, rfl⟩, ?_⟩, ?_⟩ | refine ⟨_, _, rfl, row_get _ _ arith, rfl, ?_⟩ | refine ⟨Or.inr (by repeat (first | exact trivial | refine ⟨rfl, ?_⟩)), ?_⟩ | refine ⟨(?_ : _ = ([] : List (List T))), ?_⟩ | refine ⟨_, c_sKeyedHash k [(i : Int)] (by simp), ?_⟩ | refine ⟨_, c_sMod _ _, ?_⟩ | refine ⟨(by decide), ?_⟩ | refine ⟨i, _, rfl, row_get _ _ (by omega), rfl, ?_⟩ | refine ⟨true, fun _ => (by simp [isScal]), ⟨rfl, rfl⟩, ⟨bnd, bnd⟩, ?_⟩ | refine ⟨i + 1, ⟨arith, arith⟩, sub_at [(0, 5)] rfl rfl rfl ?_ ?_⟩ | fail))
  all_goals first
    | (rw [decB_take k b (by omega), List.map_append, List.map_cons, List.map_nil]; show _ ++ [[T.int .u8 (IntKind.u8.wrap (md 256 (IntKind.i64.wrap (IntKind.i64.wrap (b[i].toNat : Int) - (khash k [(i : Int)]).tmod 256))))]] = _; rw [dec_run2]; rfl)
    | (rw [List.take_of_length_le (by omega)]; done)
    | (simp; done)
    | skip
def ckList (c : Int) (d : List UInt8) (i : Nat) : List Int := 71 :: c :: (d.take i).map fun x => (x.toNat : Int)
theorem ckList_succ (c : Int) (d : List UInt8) {i : Nat} (h : i < d.length) : ckList c d (i + 1) = ckList c d i ++ [(d[i].toNat : Int)] := by
  simp only [ckList, map_take_succ _ _ h, List.cons_append]
theorem ckList_len (c : Int) (d : List UInt8) (i : Nat) : (ckList c d i).length ≤ d.length + 2 := by simp [ckList]; omega
theorem ck_all (k c : Int) (d : List UInt8) {i : Nat} (h : d.length ≤ i) : khash k (ckList c d i) = cellCheck k c d := by unfold ckList cellCheck; rw [List.take_of_length_le h]
theorem c_sCellCheck (k c : Int) (d : List UInt8) (hd : d.length ≤ 1048576) : FnAt Tryz.prog 138 [.one (I k), .one (I c), .one (L eU d)] [.one (.s (I (cellCheck k c d)))] := by
  have hl := ckList_len c d
  have hm : (d.map eU).length = d.length := List.length_map eU
  refine fn_of Tryz.func138 rfl (by kernel_rfl) rfl ?_
  all_goals repeat' (first | (with_reducible rfl) | ((conv => whnf); first | exact trivial | (with_reducible rfl) | exact (rfl : (0 : Int) = ((0 : Nat) : Int)) | exact w64_nat arith | refine bcase_T (by first | with_reducible rfl | decide) ?_ | refine bcase_F (by first | with_reducible rfl | decide) ?_ | refine bcase_dec (fun _ => ?_) (fun _ => ?_) | refine bcase_not ?_ | refine bcase_intro (fun _ => ?_) (fun _ => ?_) | refine ⟨(by with_reducible rfl), ?_⟩ | refine ⟨congrArg vi ?_, ?_⟩ | refine ⟨congrArg vb ?_, ?_⟩ | refine ⟨rfl, ?_⟩ | refine ⟨(by kernel_rfl : drawOK _ = true), ?_⟩ | refine Or.inl ?_ | refine ⟨⟨congrArg (T.int _) ?_, rfl⟩, ?_⟩ | refine ⟨⟨congrArg T.bool ?_, rfl⟩, ?_⟩ | refine ⟨⟨rfl, Nat.le_of_ble_eq_true rfl⟩, ?_⟩ | refine ⟨⟨rfl, rfl⟩, ?_⟩ | refine ⟨⟨rfl, (by decide)⟩, ?_⟩ | refine ⟨⟨rfl, ?_⟩, ?_⟩ | refine ⟨Or.inr rfl, ?_⟩ | refine ⟨Or.inl rfl, ?_⟩ | refine ⟨⟨⟨rfl, rfl, rfl⟩, ?_⟩, ?_⟩ | refine ⟨_, _, rfl, row_get _ _ arith, rfl, ?_⟩ | refine ⟨Or.inr (by repeat (first | exact trivial | refine ⟨rfl, ?_⟩)), ?_⟩ | refine ⟨(?_ : _ = ([] : List (List T))), ?_⟩ | fail))
  conv => whnf
  refine ⟨Nat, fun i => i ≤ d.length, fun i => ⟨[(0, vi k), (2, vl (d.map eU)), (7, .c (.ref 0)), (8, vi i)], [(0, .row true true 1 ((ckList c d i).map eI))], 1⟩, fun i => d.length - i, 0, Nat.zero_le _, sub_at [(0, 7)] rfl rfl rfl ?_ ?_, fun i (hi : i ≤ d.length) => ?_⟩
  all_goals repeat' (first | (with_reducible rfl) | ((conv => whnf); first | exact trivial | (with_reducible rfl) | exact (rfl : (0 : Int) = ((0 : Nat) : Int)) | exact w64_nat arith | refine bcase_T (by first | with_reducible rfl | decide) ?_ | refine bcase_F (by first | with_reducible rfl | decide) ?_ | refine bcase_dec (fun _ => ?_) (fun _ => ?_) | refine bcase_not ?_ | refine bcase_intro (fun _ => ?_) (fun _ => ?_) | refine ⟨(by with_reducible rfl), ?_⟩ | refine ⟨congrArg vi ?_, ?_⟩ | refine ⟨congrArg vb ?_, ?_⟩ | refine ⟨rfl, ?_⟩ | refine ⟨(by kernel_rfl : drawOK _ = true), ?_⟩ | refine Or.inl ?_ | refine ⟨⟨congrArg (T.int _) ?_, rfl⟩, ?_⟩ | refine ⟨⟨congrArg T.bool ?_, rfl⟩, ?_⟩ | refine ⟨⟨rfl, Nat.le_of_ble_eq_true rfl⟩, ?_⟩ | refine ⟨⟨rfl, rfl⟩, ?_⟩ | refine ⟨⟨rfl, (by decide)⟩, ?_⟩ | refine ⟨⟨rfl, ?_⟩, ?_⟩ | refine ⟨Or.inr rfl, ?_⟩ | refine ⟨Or.inl rfl, ?_⟩ | refine ⟨⟨⟨rfl, rfl, rfl⟩, ?_⟩, ?_⟩ | refine ⟨_, _, rfl, row_get _ _ arith, rfl, ?_⟩ | refine ⟨Or.inr (by repeat (first | exact trivial | refine ⟨rfl, ?_⟩)), ?_⟩ | refine ⟨(?_ : _ = ([] : List (List T))), ?_⟩ | refine ⟨_, c_sKeyedHash k (ckList c d i) (by have := hl i; omega), ?_⟩ | refine ⟨i, _, rfl, row_get _ _ (by omega), rfl, ?_⟩ | (have h8 := hl i; refine ⟨true, fun _ => (by simp [isScal]), ⟨rfl, rfl⟩, ⟨bnd, bnd⟩, ?_⟩) | refine ⟨i + 1, ⟨arith, arith⟩, sub_at [(0, 7)] rfl rfl rfl ?_ ?_⟩ | fail))
  all_goals first
    | (rw [ckList_succ c d (by omega), List.map_append, wrap_byte]; rfl)
    | (rw [ck_all k c d (by omega)]; done)
    | rfl
    | skip
end Go.Proofs.YteecgbgdmfjogaaGreat
