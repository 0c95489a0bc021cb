/-
  Contracts: receipts, digests, audits of servers.
  Conditions: none.
-/
import Derived.Test.YtmaamiapipngaaaGreatFnO
import Derived.Test.YtmaamiapipngaaaGreatFnD
import Derived.Test.YtmaamiapipngaaaGreatFnK
namespace Go.Proofs.YtmaamiapipngaaaGreat
set_option maxHeartbeats 4000000
set_option maxRecDepth 20000
open Go.Vm Go.RowKit
attribute [local irreducible] FnAt MutAt InAt JAt CurAt FnE CurE RegAt

def bI (b : List UInt8) : List Int := (b.length : Int) :: b.map fun x => (x.toNat : Int)
def bIn (b : List UInt8) (i : Nat) : List Int := (b.length : Int) :: (b.take i).map fun x => (x.toNat : Int)
theorem bIn_succ (b : List UInt8) {i : Nat} (h : i < b.length) : bIn b (i + 1) = bIn b i ++ [(b[i].toNat : Int)] := by
  simp only [bIn, map_take_succ _ _ h, List.cons_append]
theorem bIn_len (b : List UInt8) (i : Nat) : (bIn b i).length ≤ b.length + 1 := by simp [bIn]; omega
theorem bI_len (b : List UInt8) : (bI b).length = b.length + 1 := by simp [bI]
theorem bIn_all (b : List UInt8) {i : Nat} (h : b.length ≤ i) : bIn b i = bI b := by unfold bIn bI; rw [List.take_of_length_le h]
theorem c_BytesToInts (b : List UInt8) (hd : b.length ≤ 1099511627776) : FnAt Tryz.prog 138 [.one (L eU b)] [.one (.l 1 ((bI b).map eI))] := by
  have hl := bIn_len b
  refine fn_of Tryz.func138 rfl (by kernel_rfl) rfl ?_
  all_goals repeat' (first | (with_reducible rfl) | ((conv => whnf); first | exact trivial | (with_reducible rfl) | exact (rfl : (0 : Int) = ((0 : Nat) : Int)) | exact w64_nat arith | refine bcase_T (by first | with_reducible rfl | decide) ?_ | refine bcase_F (by first | with_reducible rfl | decide) ?_ | refine bcase_dec (fun _ => ?_) (fun _ => ?_) | refine bcase_not ?_ | refine bcase_intro (fun _ => ?_) (fun _ => ?_) | refine ⟨(by with_reducible rfl), ?_⟩ | refine ⟨congrArg vi ?_, ?_⟩ | refine ⟨congrArg vb ?_, ?_⟩ | refine ⟨rfl, ?_⟩ | refine ⟨(by kernel_rfl : drawOK _ = true), ?_⟩ | refine Or.inl ?_ | refine ⟨⟨congrArg (T.int _) ?_, rfl⟩, ?_⟩ | refine ⟨⟨congrArg T.bool ?_, rfl⟩, ?_⟩ | refine ⟨⟨rfl, Nat.le_of_ble_eq_true rfl⟩, ?_⟩ | refine ⟨⟨rfl, rfl⟩, ?_⟩ | refine ⟨⟨rfl, (by decide)⟩, ?_⟩ | refine ⟨⟨rfl, ?_⟩, ?_⟩ | refine ⟨Or.inr rfl, ?_⟩ | refine ⟨Or.inl rfl, ?_⟩ | refine ⟨⟨⟨rfl, rfl, rfl⟩, ?_⟩, ?_⟩ | refine ⟨_, _, rfl, row_get _ _ arith, rfl, ?_⟩ | refine ⟨Or.inr (by repeat (first | exact trivial | refine ⟨rfl, ?_⟩)), ?_⟩ | refine ⟨(?_ : _ = ([] : List (List T))), ?_⟩ | fail))
  conv => whnf
  refine ⟨Nat, fun i => i ≤ b.length, fun i => ⟨[(3, .c (.ref 0)), (9, vl (b.map eU)), (10, vi b.length), (11, vi i)], [(0, .row true true 1 ((bIn b i).map eI))], 1⟩, fun i => b.length - i, 0, Nat.zero_le _, sub_at [(0, 3)] rfl rfl rfl ?_ ?_, fun i (hi : i ≤ b.length) => ?_⟩
  all_goals repeat' (first | (with_reducible rfl) | ((conv => whnf); first | exact trivial | (with_reducible rfl) | exact (rfl : (0 : Int) = ((0 : Nat) : Int)) | exact w64_nat arith | refine bcase_T (by first | with_reducible rfl | decide) ?_ | refine bcase_F (by first | with_reducible rfl | decide) ?_ | refine bcase_dec (fun _ => ?_) (fun _ => ?_) | refine bcase_not ?_ | refine bcase_intro (fun _ => ?_) (fun _ => ?_) | refine ⟨(by with_reducible rfl), ?_⟩ | refine ⟨congrArg vi ?_, ?_⟩ | refine ⟨congrArg vb ?_, ?_⟩ | refine ⟨rfl, ?_⟩ | refine ⟨(by kernel_rfl : drawOK _ = true), ?_⟩ | refine Or.inl ?_ | refine ⟨⟨congrArg (T.int _) ?_, rfl⟩, ?_⟩ | refine ⟨⟨congrArg T.bool ?_, rfl⟩, ?_⟩ | refine ⟨⟨rfl, Nat.le_of_ble_eq_true rfl⟩, ?_⟩ | refine ⟨⟨rfl, rfl⟩, ?_⟩ | refine ⟨⟨rfl, (by decide)⟩, ?_⟩ | refine ⟨⟨rfl, ?_⟩, ?_⟩ | refine ⟨Or.inr rfl, ?_⟩ | refine ⟨Or.inl rfl, ?_⟩ | refine ⟨⟨⟨rfl, rfl, rfl⟩, ?_⟩, ?_⟩ | refine ⟨_, _, rfl, row_get _ _ arith, rfl, ?_⟩ | refine ⟨Or.inr (by repeat (first | exact trivial | refine ⟨rfl, ?_⟩)), ?_⟩ | refine ⟨(?_ : _ = ([] : List (List T))), ?_⟩ | (have h8 := hl i; refine ⟨true, fun _ => (by simp [isScal]), ⟨rfl, rfl⟩, ⟨bnd, bnd⟩, ?_⟩) | refine ⟨i + 1, ⟨arith, arith⟩, sub_at [(0, 3)] rfl rfl rfl ?_ ?_⟩ | fail))
  all_goals first
    | (rw [List.length_map]; done)
    | (rw [List.length_map]; rfl)
    | (rw [bIn_succ b (by omega), List.map_append, wrap_byte]; rfl)
    | (rw [bIn_all b (by omega)]; done)
    | rfl
    | skip
theorem c_sBytesToInts (b : List UInt8) (hd : b.length ≤ 1099511627776) : FnAt Tryz.prog 123 [.one (L eU b)] [.one (.l 1 ((bI b).map eI))] := by
  have hl := bIn_len b
  have hm : (b.map eU).length = b.length := List.length_map eU
  refine fn_of Tryz.func123 rfl (by kernel_rfl) rfl ?_
  all_goals repeat' (first | (with_reducible rfl) | ((conv => whnf); first | exact trivial | (with_reducible rfl) | exact (rfl : (0 : Int) = ((0 : Nat) : Int)) | exact w64_nat arith | refine bcase_T (by first | with_reducible rfl | decide) ?_ | refine bcase_F (by first | with_reducible rfl | decide) ?_ | refine bcase_dec (fun _ => ?_) (fun _ => ?_) | refine bcase_not ?_ | refine bcase_intro (fun _ => ?_) (fun _ => ?_) | refine ⟨(by with_reducible rfl), ?_⟩ | refine ⟨congrArg vi ?_, ?_⟩ | refine ⟨congrArg vb ?_, ?_⟩ | refine ⟨rfl, ?_⟩ | refine ⟨(by kernel_rfl : drawOK _ = true), ?_⟩ | refine Or.inl ?_ | refine ⟨⟨congrArg (T.int _) ?_, rfl⟩, ?_⟩ | refine ⟨⟨congrArg T.bool ?_, rfl⟩, ?_⟩ | refine ⟨⟨rfl, Nat.le_of_ble_eq_true rfl⟩, ?_⟩ | refine ⟨⟨rfl, rfl⟩, ?_⟩ | refine ⟨⟨rfl, (by decide)⟩, ?_⟩ | refine ⟨⟨rfl, ?_⟩, ?_⟩ | refine ⟨Or.inr rfl, ?_⟩ | refine ⟨Or.inl rfl, ?_⟩ | refine ⟨⟨⟨rfl, rfl, rfl⟩, ?_⟩, ?_⟩ | refine ⟨_, _, rfl, row_get _ _ arith, rfl, ?_⟩ | refine ⟨Or.inr (by repeat (first | exact trivial | refine ⟨rfl, ?_⟩)), ?_⟩ | refine ⟨(?_ : _ = ([] : List (List T))), ?_⟩ | fail))
  conv => whnf
  refine ⟨Nat, fun i => i ≤ b.length, fun i => ⟨[(0, vl (b.map eU)), (3, .c (.ref 0)), (4, vi i)], [(0, .row true true 1 ((bIn b i).map eI))], 1⟩, fun i => b.length - i, 0, Nat.zero_le _, sub_at [(0, 3)] rfl rfl rfl ?_ ?_, fun i (hi : i ≤ b.length) => ?_⟩
  all_goals repeat' (first | (with_reducible rfl) | ((conv => whnf); first | exact trivial | (with_reducible rfl) | exact (rfl : (0 : Int) = ((0 : Nat) : Int)) | exact w64_nat arith | refine bcase_T (by first | with_reducible rfl | decide) ?_ | refine bcase_F (by first | with_reducible rfl | decide) ?_ | refine bcase_dec (fun _ => ?_) (fun _ => ?_) | refine bcase_not ?_ | refine bcase_intro (fun _ => ?_) (fun _ => ?_) | refine ⟨(by with_reducible rfl), ?_⟩ | refine ⟨congrArg vi ?_, ?_⟩ | refine ⟨congrArg vb ?_, ?_⟩ | refine ⟨rfl, ?_⟩ | refine ⟨(by kernel_rfl : drawOK _ = true), ?_⟩ | refine Or.inl ?_ | refine ⟨⟨congrArg (T.int _) ?_, rfl⟩, ?_⟩ | refine ⟨⟨congrArg T.bool ?_, rfl⟩, ?_⟩ | refine ⟨⟨rfl, Nat.le_of_ble_eq_true rfl⟩, ?_⟩ | refine ⟨⟨rfl, rfl⟩, ?_⟩ | refine ⟨⟨rfl, (by decide)⟩, ?_⟩ | refine ⟨⟨rfl, ?_⟩, ?_⟩ | refine ⟨Or.inr rfl, ?_⟩ | refine ⟨Or.inl rfl, ?_⟩ | refine ⟨⟨⟨rfl, rfl, rfl⟩, ?_⟩, ?_⟩ | refine ⟨_, _, rfl, row_get _ _ arith, rfl, ?_⟩ | refine ⟨Or.inr (by repeat (first | exact trivial | refine ⟨rfl, ?_⟩)), ?_⟩ | refine ⟨(?_ : _ = ([] : List (List T))), ?_⟩ | refine ⟨i, _, rfl, row_get _ _ (by omega), rfl, ?_⟩ | (have h8 := hl i; refine ⟨true, fun _ => (by simp [isScal]), ⟨rfl, rfl⟩, ⟨bnd, bnd⟩, ?_⟩) | refine ⟨i + 1, ⟨arith, arith⟩, sub_at [(0, 3)] rfl rfl rfl ?_ ?_⟩ | fail))
  all_goals first
    | (rw [List.length_map]; rfl)
    | (rw [bIn_succ b (by omega), List.map_append, wrap_byte]; rfl)
    | (rw [bIn_all b (by omega)]; done)
    | rfl
    | skip
def dbIn (l : List (List UInt8)) (i : Nat) : List Int := (l.length : Int) :: ((l.map bI).take i).flatten
theorem dbIn_len (l : List (List UInt8)) (i : Nat) : (dbIn l i).length ≤ szL List.length l + 1 := by
  have h1 := flat_le (l.map bI) i
  have h2 : ∀ l : List (List UInt8), (l.map bI).flatten.length = szL List.length l := by
    intro l
    induction l with
    | nil => rfl
    | cons x l ih => simp only [List.map_cons, List.flatten_cons, List.length_append, bI_len, ih, szL, List.length_cons, List.sum_cons]; omega
  rw [h2] at h1
  simp only [dbIn, List.length_cons]
  omega
theorem dbIn_succ (l : List (List UInt8)) {i : Nat} (h : i < l.length) : dbIn l (i + 1) = dbIn l i ++ bI l[i] := by
  have h2 : i < (l.map bI).length := by rw [List.length_map]; exact h
  simp only [dbIn, flat_take (l.map bI) h2, List.cons_append, List.getElem_map]
def dbDig (d : DDatabase) : Int := hsh (dbIn d.Rows d.Rows.length)
theorem dbIn_all (l : List (List UInt8)) {i : Nat} (h : l.length ≤ i) : dbIn l i = dbIn l l.length := by
  unfold dbIn
  rw [List.take_of_length_le (by rw [List.length_map]; exact h), List.take_of_length_le (by rw [List.length_map]; omega)]
attribute [local irreducible] dbIn bI bIn
def shareDig (c r : Int) (d : DDatabase) : Int := hsh [179, c, r, dbDig d]
attribute [local irreducible] dbDig
def servKey (m s : Int) : Int := orOne (khash m [173, s])
theorem c_ServerKey (m s : Int) : FnAt Tryz.prog 28 [.one (I m), .one (I s)] [.one (.s (I (servKey m s)))] := by
  refine fn_of Tryz.func28 rfl (by kernel_rfl) rfl ?_
  all_goals repeat' (first | (with_reducible rfl) | ((conv => whnf); first | exact trivial | (with_reducible rfl) | exact (rfl : (0 : Int) = ((0 : Nat) : Int)) | exact w64_nat arith | refine bcase_T (by first | with_reducible rfl | decide) ?_ | refine bcase_F (by first | with_reducible rfl | decide) ?_ | refine bcase_dec (fun _ => ?_) (fun _ => ?_) | refine bcase_not ?_ | refine bcase_intro (fun _ => ?_) (fun _ => ?_) | refine ⟨(by with_reducible rfl), ?_⟩ | refine ⟨congrArg vi ?_, ?_⟩ | refine ⟨congrArg vb ?_, ?_⟩ | refine ⟨rfl, ?_⟩ | refine ⟨(by kernel_rfl : drawOK _ = true), ?_⟩ | refine Or.inl ?_ | refine ⟨⟨congrArg (T.int _) ?_, rfl⟩, ?_⟩ | refine ⟨⟨congrArg T.bool ?_, rfl⟩, ?_⟩ | refine ⟨⟨rfl, Nat.le_of_ble_eq_true rfl⟩, ?_⟩ | refine ⟨⟨rfl, rfl⟩, ?_⟩ | refine ⟨⟨rfl, (by decide)⟩, ?_⟩ | refine ⟨⟨rfl, ?_⟩, ?_⟩ | refine ⟨Or.inr rfl, ?_⟩ | refine ⟨Or.inl rfl, ?_⟩ | refine ⟨⟨⟨rfl, rfl, rfl⟩, ?_⟩, ?_⟩ | refine ⟨_, _, rfl, row_get _ _ arith, rfl, ?_⟩ | refine ⟨Or.inr (by repeat (first | exact trivial | refine ⟨rfl, ?_⟩)), ?_⟩ | refine ⟨(?_ : _ = ([] : List (List T))), ?_⟩ | refine ⟨_, c_KeyedHash m [173, s] (by simp), ?_⟩ | refine ⟨_, c_orOne _, ?_⟩ | fail))
  all_goals rfl
theorem c_sServerKey (m s : Int) : FnAt Tryz.prog 51 [.one (I m), .one (I s)] [.one (.s (I (servKey m s)))] := by
  refine fn_of Tryz.func51 rfl (by kernel_rfl) rfl ?_
  all_goals repeat' (first | (with_reducible rfl) | ((conv => whnf); first | exact trivial | (with_reducible rfl) | exact (rfl : (0 : Int) = ((0 : Nat) : Int)) | exact w64_nat arith | refine bcase_T (by first | with_reducible rfl | decide) ?_ | refine bcase_F (by first | with_reducible rfl | decide) ?_ | refine bcase_dec (fun _ => ?_) (fun _ => ?_) | refine bcase_not ?_ | refine bcase_intro (fun _ => ?_) (fun _ => ?_) | refine ⟨(by with_reducible rfl), ?_⟩ | refine ⟨congrArg vi ?_, ?_⟩ | refine ⟨congrArg vb ?_, ?_⟩ | refine ⟨rfl, ?_⟩ | refine ⟨(by kernel_rfl : drawOK _ = true), ?_⟩ | refine Or.inl ?_ | refine ⟨⟨congrArg (T.int _) ?_, rfl⟩, ?_⟩ | refine ⟨⟨congrArg T.bool ?_, rfl⟩, ?_⟩ | refine ⟨⟨rfl, Nat.le_of_ble_eq_true rfl⟩, ?_⟩ | refine ⟨⟨rfl, rfl⟩, ?_⟩ | refine ⟨⟨rfl, (by decide)⟩, ?_⟩ | refine ⟨⟨rfl, ?_⟩, ?_⟩ | refine ⟨Or.inr rfl, ?_⟩ | refine ⟨Or.inl rfl, ?_⟩ | refine ⟨⟨⟨rfl, rfl, rfl⟩, ?_⟩, ?_⟩ | refine ⟨_, _, rfl, row_get _ _ arith, rfl, ?_⟩ | refine ⟨Or.inr (by repeat (first | exact trivial | refine ⟨rfl, ?_⟩)), ?_⟩ | refine ⟨(?_ : _ = ([] : List (List T))), ?_⟩ | refine ⟨_, c_sKeyedHash m [173, s] (by simp), ?_⟩ | refine ⟨_, c_sMax1 _ (khash_range _ _).1, ?_⟩ | fail))
  all_goals rfl
end Go.Proofs.YtmaamiapipngaaaGreat
