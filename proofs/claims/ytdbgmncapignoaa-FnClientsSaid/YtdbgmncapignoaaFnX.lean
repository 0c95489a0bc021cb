/-
  Contracts: exclusive or of bytes and of databases.
  Conditions: none.
-/
import Derived.Test.YtdbgmncapignoaaFnG
namespace Go.Proofs.Ytdbgmncapignoaa
set_option maxHeartbeats 4000000
set_option maxRecDepth 20000
open Go.Vm Go.RowKit
attribute [local irreducible] FnAt MutAt InAt JAt CurAt FnE CurE RegAt

theorem partm_get {α : Type} {f : Nat → α → α} {b : List α} {i : Nat} (g : α → List T) (h : i < b.length) : ((Vm.part f b i).map g)[i]? = some (g b[i]) := by rw [List.getElem?_map, part_get h]; rfl
theorem partm_set {α : Type} {f : Nat → α → α} {b : List α} {i : Nat} (g : α → List T) (h : i < b.length) : ((Vm.part f b i).map g).set i (g (f i b[i])) = (Vm.part f b (i + 1)).map g := by rw [← part_set h, List.map_set]
theorem xor_part (a b : List UInt8) (h : b.length ≤ a.length) {i : Nat} (hi : i = b.length) : Vm.part (fun i x => x ^^^ (b[i]?.getD 0)) a i = xorB a b := by
  rw [hi, part_stop (fun j hj hn => by rw [List.getElem?_eq_none hn]; simp) h, xorB_mapIdx a b h]
attribute [local irreducible] xorB Vm.part
theorem c_XorBytes (a b : List UInt8) (ha : a.length ≤ 1099511627776) (hb : b.length ≤ 1099511627776) : FnAt Try.prog 149 [.one (L eU a), .one (L eU b)] [.one (.l 1 ((xorB a b).map eU))] := by
  by_cases hc : a.length < b.length
  · rw [xorB_comm]
    have hl1 : (a.map eU).length = a.length := List.length_map eU
    have hl2 : (b.map eU).length = b.length := List.length_map eU
    refine fn_of Try.func149 rfl (by kernel_rfl) rfl ?_
    all_goals repeat' (first
      | (with_reducible rfl)
      | (conv => whnf
         first
           | refine bcase_T (decide_eq_true (by omega)) ?_
           | refine ⟨_, c_Clone8 b hb, ?_⟩
           | exact trivial
           | (with_reducible rfl)
           | exact (rfl : (0 : Int) = ((0 : Nat) : Int))
           | exact w64_nat arith
           | refine bcase_T (by first | with_reducible rfl | decide) ?_
           | refine bcase_F (by first | with_reducible rfl | decide) ?_
           | refine bcase_dec (fun _ => ?_) (fun _ => ?_)
           | refine bcase_not ?_
           | refine bcase_intro (fun _ => ?_) (fun _ => ?_)
           | refine ⟨(by with_reducible rfl), ?_⟩
           | refine ⟨congrArg vi ?_, ?_⟩
           | refine ⟨congrArg vb ?_, ?_⟩
           | refine ⟨rfl, ?_⟩
           | refine ⟨(by kernel_rfl : drawOK _ = true), ?_⟩
           | refine Or.inl ?_
           | refine ⟨⟨congrArg (T.int _) ?_, rfl⟩, ?_⟩
           | refine ⟨⟨congrArg T.bool ?_, rfl⟩, ?_⟩
           | refine ⟨⟨rfl, Nat.le_of_ble_eq_true rfl⟩, ?_⟩
           | refine ⟨⟨rfl, rfl⟩, ?_⟩
           | refine ⟨⟨rfl, (by decide)⟩, ?_⟩
           | refine ⟨⟨rfl, ?_⟩, ?_⟩
           | refine ⟨Or.inr rfl, ?_⟩
           | refine ⟨Or.inl rfl, ?_⟩
           | refine ⟨⟨⟨rfl, rfl, rfl⟩, ?_⟩, ?_⟩
           | refine ⟨_, _, rfl, row_get _ _ arith, rfl, ?_⟩
           | refine ⟨Or.inr (by repeat (first | exact trivial | refine ⟨rfl, ?_⟩)), ?_⟩
           | refine ⟨(?_ : _ = ([] : List (List T))), ?_⟩
           | fail))
    conv => whnf
    refine ⟨Nat, fun i => i ≤ a.length, fun i => ⟨[(5, .c (.ref 0)), (17, vl (a.map eU)), (18, vi a.length), (19, vi i)], [(0, .row true true 1 ((Vm.part (fun i x => x ^^^ (a[i]?.getD 0)) b i).map eU))], 1⟩, fun i => a.length - i, 0, Nat.zero_le _, sub_at [(0, 5)] rfl rfl rfl ?_ ?_, fun i (hi : i ≤ a.length) => ?_⟩
    all_goals repeat' (first
      | (with_reducible rfl)
      | (conv => whnf
         first
           | exact trivial
           | (with_reducible rfl)
           | exact (rfl : (0 : Int) = ((0 : Nat) : Int))
           | exact w64_nat arith
           | refine bcase_T (by first | with_reducible rfl | decide) ?_
           | refine bcase_F (by first | with_reducible rfl | decide) ?_
           | refine bcase_dec (fun _ => ?_) (fun _ => ?_)
           | refine bcase_not ?_
           | refine bcase_intro (fun _ => ?_) (fun _ => ?_)
           | refine ⟨(by with_reducible rfl), ?_⟩
           | refine ⟨congrArg vi ?_, ?_⟩
           | refine ⟨congrArg vb ?_, ?_⟩
           | refine ⟨rfl, ?_⟩
           | refine ⟨(by kernel_rfl : drawOK _ = true), ?_⟩
           | refine Or.inl ?_
           | refine ⟨⟨congrArg (T.int _) ?_, rfl⟩, ?_⟩
           | refine ⟨⟨congrArg T.bool ?_, rfl⟩, ?_⟩
           | refine ⟨⟨rfl, Nat.le_of_ble_eq_true rfl⟩, ?_⟩
           | refine ⟨⟨rfl, rfl⟩, ?_⟩
           | refine ⟨⟨rfl, (by decide)⟩, ?_⟩
           | refine ⟨⟨rfl, ?_⟩, ?_⟩
           | refine ⟨Or.inr rfl, ?_⟩
           | refine ⟨Or.inl rfl, ?_⟩
           | refine ⟨⟨⟨rfl, rfl, rfl⟩, ?_⟩, ?_⟩
           | refine ⟨_, _, rfl, row_get _ _ arith, rfl, ?_⟩
           | refine ⟨Or.inr (by repeat (first | exact trivial | refine ⟨rfl, ?_⟩)), ?_⟩
           | refine ⟨(?_ : _ = ([] : List (List T))), ?_⟩
           | refine ⟨i, rfl, (by rw [List.length_map, part_len]; omega), ?_⟩
           | refine ⟨_, partm_get eU (by omega), ?_⟩
           | refine ⟨_, partm_get eU (by omega), ⟨rfl, Nat.le_of_ble_eq_true rfl⟩, ?_⟩
           | refine ⟨i + 1, ⟨arith, arith⟩, sub_at [(0, 5)] rfl rfl rfl ?_ ?_⟩
           | fail))
    all_goals first
      | (rw [List.length_map]; done)
      | (rw [part_zero]; done)
      | (rw [xor_part b a (by omega) (by omega)]; done)
      | (rw [← partm_set eU (show i < b.length by omega)]; congr 1; have h0 : i < a.length := (by omega); have e : a[i]?.getD 0 = a[i] := (by simp [h0]); show [T.int .u8 (bits .xor .u8 (b[i].toNat : Int) (a[i].toNat : Int))] = [U8 ((b[i] ^^^ a[i]?.getD 0).toNat : Int)]; rw [e, u8_xor2])
      | skip
  · have hl1 : (a.map eU).length = a.length := List.length_map eU
    have hl2 : (b.map eU).length = b.length := List.length_map eU
    refine fn_of Try.func149 rfl (by kernel_rfl) rfl ?_
    all_goals repeat' (first
      | (with_reducible rfl)
      | (conv => whnf
         first
           | refine bcase_F (decide_eq_false (by omega)) ?_
           | refine ⟨_, c_Clone8 a ha, ?_⟩
           | exact trivial
           | (with_reducible rfl)
           | exact (rfl : (0 : Int) = ((0 : Nat) : Int))
           | exact w64_nat arith
           | refine bcase_T (by first | with_reducible rfl | decide) ?_
           | refine bcase_F (by first | with_reducible rfl | decide) ?_
           | refine bcase_dec (fun _ => ?_) (fun _ => ?_)
           | refine bcase_not ?_
           | refine bcase_intro (fun _ => ?_) (fun _ => ?_)
           | refine ⟨(by with_reducible rfl), ?_⟩
           | refine ⟨congrArg vi ?_, ?_⟩
           | refine ⟨congrArg vb ?_, ?_⟩
           | refine ⟨rfl, ?_⟩
           | refine ⟨(by kernel_rfl : drawOK _ = true), ?_⟩
           | refine Or.inl ?_
           | refine ⟨⟨congrArg (T.int _) ?_, rfl⟩, ?_⟩
           | refine ⟨⟨congrArg T.bool ?_, rfl⟩, ?_⟩
           | refine ⟨⟨rfl, Nat.le_of_ble_eq_true rfl⟩, ?_⟩
           | refine ⟨⟨rfl, rfl⟩, ?_⟩
           | refine ⟨⟨rfl, (by decide)⟩, ?_⟩
           | refine ⟨⟨rfl, ?_⟩, ?_⟩
           | refine ⟨Or.inr rfl, ?_⟩
           | refine ⟨Or.inl rfl, ?_⟩
           | refine ⟨⟨⟨rfl, rfl, rfl⟩, ?_⟩, ?_⟩
           | refine ⟨_, _, rfl, row_get _ _ arith, rfl, ?_⟩
           | refine ⟨Or.inr (by repeat (first | exact trivial | refine ⟨rfl, ?_⟩)), ?_⟩
           | refine ⟨(?_ : _ = ([] : List (List T))), ?_⟩
           | fail))
    conv => whnf
    refine ⟨Nat, fun i => i ≤ b.length, fun i => ⟨[(5, .c (.ref 0)), (17, vl (b.map eU)), (18, vi b.length), (19, vi i)], [(0, .row true true 1 ((Vm.part (fun i x => x ^^^ (b[i]?.getD 0)) a i).map eU))], 1⟩, fun i => b.length - i, 0, Nat.zero_le _, sub_at [(0, 5)] rfl rfl rfl ?_ ?_, fun i (hi : i ≤ b.length) => ?_⟩
    all_goals repeat' (first
      | (with_reducible rfl)
      | (conv => whnf
         first
           | exact trivial
           | (with_reducible rfl)
           | exact (rfl : (0 : Int) = ((0 : Nat) : Int))
           | exact w64_nat arith
           | refine bcase_T (by first | with_reducible rfl | decide) ?_
           | refine bcase_F (by first | with_reducible rfl | decide) ?_
           | refine bcase_dec (fun _ => ?_) (fun _ => ?_)
           | refine bcase_not ?_
           | refine bcase_intro (fun _ => ?_) (fun _ => ?_)
           | refine ⟨(by with_reducible rfl), ?_⟩
           | refine ⟨congrArg vi ?_, ?_⟩
           | refine ⟨congrArg vb ?_, ?_⟩
           | refine ⟨rfl, ?_⟩
           | refine ⟨(by kernel_rfl : drawOK _ = true), ?_⟩
           | refine Or.inl ?_
           | refine ⟨⟨congrArg (T.int _) ?_, rfl⟩, ?_⟩
           | refine ⟨⟨congrArg T.bool ?_, rfl⟩, ?_⟩
           | refine ⟨⟨rfl, Nat.le_of_ble_eq_true rfl⟩, ?_⟩
           | refine ⟨⟨rfl, rfl⟩, ?_⟩
           | refine ⟨⟨rfl, (by decide)⟩, ?_⟩
           | refine ⟨⟨rfl, ?_⟩, ?_⟩
           | refine ⟨Or.inr rfl, ?_⟩
           | refine ⟨Or.inl rfl, ?_⟩
           | refine ⟨⟨⟨rfl, rfl, rfl⟩, ?_⟩, ?_⟩
           | refine ⟨_, _, rfl, row_get _ _ arith, rfl, ?_⟩
           | refine ⟨Or.inr (by repeat (first | exact trivial | refine ⟨rfl, ?_⟩)), ?_⟩
           | refine ⟨(?_ : _ = ([] : List (List T))), ?_⟩
           | refine ⟨i, rfl, (by rw [List.length_map, part_len]; omega), ?_⟩
           | refine ⟨_, partm_get eU (by omega), ?_⟩
           | refine ⟨_, partm_get eU (by omega), ⟨rfl, Nat.le_of_ble_eq_true rfl⟩, ?_⟩
           | refine ⟨i + 1, ⟨arith, arith⟩, sub_at [(0, 5)] rfl rfl rfl ?_ ?_⟩
           | fail))
    all_goals first
      | (rw [List.length_map]; done)
      | (rw [part_zero]; done)
      | (rw [xor_part a b (by omega) (by omega)]; done)
      | (rw [← partm_set eU (show i < a.length by omega)]; congr 1; have h0 : i < b.length := (by omega); have e : b[i]?.getD 0 = b[i] := (by simp [h0]); show [T.int .u8 (bits .xor .u8 (a[i].toNat : Int) (b[i].toNat : Int))] = [U8 ((a[i] ^^^ b[i]?.getD 0).toNat : Int)]; rw [e, u8_xor2])
      | skip
theorem c_sXorBytes (a b : List UInt8) (ha : a.length ≤ 1099511627776) (hb : b.length ≤ 1099511627776) : FnAt Try.prog 152 [.one (L eU a), .one (L eU b)] [.one (.l 1 ((xorB a b).map eU))] := by
  have hl1 : (a.map eU).length = a.length := List.length_map eU
  have hl2 : (b.map eU).length = b.length := List.length_map eU
  have hx := xorB_len a b
  refine fn_of Try.func152 rfl (by kernel_rfl) rfl ?_
  all_goals repeat' (first
    | (with_reducible rfl)
    | (conv => whnf
       first
         | exact trivial
         | (with_reducible rfl)
         | exact (rfl : (0 : Int) = ((0 : Nat) : Int))
         | exact w64_nat arith
         | refine bcase_T (by first | with_reducible rfl | decide) ?_
         | refine bcase_F (by first | with_reducible rfl | decide) ?_
         | refine bcase_dec (fun _ => ?_) (fun _ => ?_)
         | refine bcase_not ?_
         | refine bcase_intro (fun _ => ?_) (fun _ => ?_)
         | refine ⟨(by with_reducible rfl), ?_⟩
         | refine ⟨congrArg vi ?_, ?_⟩
         | refine ⟨congrArg vb ?_, ?_⟩
         | refine ⟨rfl, ?_⟩
         | refine ⟨(by kernel_rfl : drawOK _ = true), ?_⟩
         | refine Or.inl ?_
         | refine ⟨⟨congrArg (T.int _) ?_, rfl⟩, ?_⟩
         | refine ⟨⟨congrArg T.bool ?_, rfl⟩, ?_⟩
         | refine ⟨⟨rfl, Nat.le_of_ble_eq_true rfl⟩, ?_⟩
         | refine ⟨⟨rfl, rfl⟩, ?_⟩
         | refine ⟨⟨rfl, (by decide)⟩, ?_⟩
         | refine ⟨⟨rfl, ?_⟩, ?_⟩
         | refine ⟨Or.inr rfl, ?_⟩
         | refine ⟨Or.inl rfl, ?_⟩
         | refine ⟨⟨⟨rfl, rfl, rfl⟩, ?_⟩, ?_⟩
         | refine ⟨_, _, rfl, row_get _ _ arith, rfl, ?_⟩
         | refine ⟨Or.inr (by repeat (first | exact trivial | refine ⟨rfl, ?_⟩)), ?_⟩
         | refine ⟨(?_ : _ = ([] : List (List T))), ?_⟩
         | fail))
  conv => whnf
  refine ⟨Nat, fun i => i ≤ max a.length b.length, fun i => ⟨[(0, vl (a.map eU)), (1, vl (b.map eU)), (5, .c (.ref 0)), (6, vi i)], [(0, .row true true 1 (((xorB a b).take i).map eU))], 1⟩, fun i => max a.length b.length - i, 0, Nat.zero_le _, sub_at [(0, 5)] rfl rfl rfl ?_ ?_, fun i (hi : i ≤ max a.length b.length) => ?_⟩
  all_goals repeat' (first
    | (with_reducible rfl)
    | (conv => whnf
       first
         | exact trivial
         | (with_reducible rfl)
         | exact (rfl : (0 : Int) = ((0 : Nat) : Int))
         | exact w64_nat arith
         | refine bcase_T (by first | with_reducible rfl | decide) ?_
         | refine bcase_F (by first | with_reducible rfl | decide) ?_
         | refine bcase_dec (fun _ => ?_) (fun _ => ?_)
         | refine bcase_not ?_
         | refine bcase_intro (fun _ => ?_) (fun _ => ?_)
         | refine ⟨(by with_reducible rfl), ?_⟩
         | refine ⟨congrArg vi ?_, ?_⟩
         | refine ⟨congrArg vb ?_, ?_⟩
         | refine ⟨rfl, ?_⟩
         | refine ⟨(by kernel_rfl : drawOK _ = true), ?_⟩
         | refine Or.inl ?_
         | refine ⟨⟨congrArg (T.int _) ?_, rfl⟩, ?_⟩
         | refine ⟨⟨congrArg T.bool ?_, rfl⟩, ?_⟩
         | refine ⟨⟨rfl, Nat.le_of_ble_eq_true rfl⟩, ?_⟩
         | refine ⟨⟨rfl, rfl⟩, ?_⟩
         | refine ⟨⟨rfl, (by decide)⟩, ?_⟩
         | refine ⟨⟨rfl, ?_⟩, ?_⟩
         | refine ⟨Or.inr rfl, ?_⟩
         | refine ⟨Or.inl rfl, ?_⟩
         | refine ⟨⟨⟨rfl, rfl, rfl⟩, ?_⟩, ?_⟩
         | refine ⟨_, _, rfl, row_get _ _ arith, rfl, ?_⟩
         | refine ⟨Or.inr (by repeat (first | exact trivial | refine ⟨rfl, ?_⟩)), ?_⟩
         | refine ⟨(?_ : _ = ([] : List (List T))), ?_⟩
         | refine ⟨i, _, rfl, row_get _ _ (by omega), rfl, ?_⟩
         | refine ⟨true, fun _ => (by simp [isScal]), ⟨rfl, rfl⟩, ⟨bnd, bnd⟩, ?_⟩
         | (refine ⟨i + 1, ⟨(by dsimp only; omega), (by dsimp only; omega)⟩, sub_at [(0, 5)] rfl rfl rfl ?_ ?_⟩)
         | fail))
  all_goals first
    | (exfalso; omega)
    | (rw [List.take_of_length_le (by omega)]; done)
    | (have h0 : i < a.length := (by omega); have h1 : i < b.length := (by omega); rw [xorB_take a b (by omega), List.map_append, List.map_cons, List.map_nil, show a[i]?.getD 0 = a[i] from (by simp [h0]), show b[i]?.getD 0 = b[i] from (by simp [h1])]; show _ ++ [[T.int .u8 (bits .xor .u8 (a[i].toNat : Int) (b[i].toNat : Int))]] = _; rw [u8_xor2]; rfl)
    | (have h0 : i < a.length := (by omega); have h1 : b[i]? = none := List.getElem?_eq_none (by omega); rw [xorB_take a b (by omega), List.map_append, List.map_cons, List.map_nil, show a[i]?.getD 0 = a[i] from (by simp [h0]), h1]; show _ ++ [[T.int .u8 (a[i].toNat : Int)]] = _ ++ [eU (a[i] ^^^ 0)]; rw [UInt8.xor_zero]; rfl)
    | (have h1 : i < b.length := (by omega); have h0 : a[i]? = none := List.getElem?_eq_none (by omega); rw [xorB_take a b (by omega), List.map_append, List.map_cons, List.map_nil, show b[i]?.getD 0 = b[i] from (by simp [h1]), h0]; have e := u8_xor2 0 b[i]; rw [show (((0 : UInt8).toNat : Nat) : Int) = 0 from (by decide)] at e; rw [e]; rfl)
    | (simp; done)
    | skip
end Go.Proofs.Ytdbgmncapignoaa
