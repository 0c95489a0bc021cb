/-
  Contracts: sealed cells.
  Conditions: none.
-/
import Derived.Test.YteecgbgdmfjogaaGreatFnN
import Derived.Test.YteecgbgdmfjogaaGreatFnC
namespace Go.Proofs.YteecgbgdmfjogaaGreat
set_option maxHeartbeats 4000000
set_option maxRecDepth 20000
open Go.Vm Go.RowKit
attribute [local irreducible] FnAt MutAt InAt JAt CurAt FnE CurE RegAt

def cellKey (k c : Int) : Int := orOne (khash k [67, c])
theorem bytes4_run (n : Int) : [[U8 (IntKind.u8.wrap n)], [U8 (IntKind.u8.wrap (n.fdiv (2 ^ (min (8 : Int).toNat IntKind.i64.bits))))], [U8 (IntKind.u8.wrap (n.fdiv (2 ^ (min (16 : Int).toNat IntKind.i64.bits))))], [U8 (IntKind.u8.wrap (n.fdiv (2 ^ (min (24 : Int).toNat IntKind.i64.bits))))]] = (bytes4 n).map eU := by
  have e1 : n.fdiv (2 ^ (min (8 : Int).toNat IntKind.i64.bits)) = n / 256 := by show n.fdiv 256 = _; rw [Int.fdiv_eq_ediv_of_nonneg _ (by decide)]
  have e2 : n.fdiv (2 ^ (min (16 : Int).toNat IntKind.i64.bits)) = n / 65536 := by show n.fdiv 65536 = _; rw [Int.fdiv_eq_ediv_of_nonneg _ (by decide)]
  have e3 : n.fdiv (2 ^ (min (24 : Int).toNat IntKind.i64.bits)) = n / 16777216 := by show n.fdiv 16777216 = _; rw [Int.fdiv_eq_ediv_of_nonneg _ (by decide)]
  rw [e1, e2, e3, u8_wrap, u8_wrap, u8_wrap, u8_wrap]
  rfl
theorem bytes4_len (n : Int) : (bytes4 n).length = 4 := rfl
attribute [local irreducible] bytes4 Vm.byteOf
theorem c_orOne (n : Int) : FnAt Tryz.prog 24 [.one (I n)] [.one (.s (I (orOne n)))] := by
  refine fn_of Tryz.func24 rfl (by kernel_rfl) rfl ?_
  all_goals repeat' (first | (with_reducible rfl) | ((conv => whnf); first | exact trivial | (with_reducible rfl) | exact (rfl : (0 : Int) = ((0 : Nat) : Int)) | exact w64_nat arith | refine bcase_T (by first | with_reducible rfl | decide) ?_ | refine bcase_F (by first | with_reducible rfl | decide) ?_ | refine bcase_dec (fun _ => ?_) (fun _ => ?_) | refine bcase_not ?_ | refine bcase_intro (fun _ => ?_) (fun _ => ?_) | refine ⟨(by with_reducible rfl), ?_⟩ | refine ⟨congrArg vi ?_, ?_⟩ | refine ⟨congrArg vb ?_, ?_⟩ | refine ⟨rfl, ?_⟩ | refine ⟨(by kernel_rfl : drawOK _ = true), ?_⟩ | refine Or.inl ?_ | refine ⟨⟨congrArg (T.int _) ?_, rfl⟩, ?_⟩ | refine ⟨⟨congrArg T.bool ?_, rfl⟩, ?_⟩ | refine ⟨⟨rfl, Nat.le_of_ble_eq_true rfl⟩, ?_⟩ | refine ⟨⟨rfl, rfl⟩, ?_⟩ | refine ⟨⟨rfl, (by decide)⟩, ?_⟩ | refine ⟨⟨rfl, ?_⟩, ?_⟩ | refine ⟨Or.inr rfl, ?_⟩ | refine ⟨Or.inl rfl, ?_⟩ | refine ⟨⟨⟨rfl, rfl, rfl⟩, ?_⟩, ?_⟩ | refine ⟨_, _, rfl, row_get _ _ arith, rfl, ?_⟩ | refine ⟨Or.inr (by repeat (first | exact trivial | refine ⟨rfl, ?_⟩)), ?_⟩ | refine ⟨(?_ : _ = ([] : List (List T))), ?_⟩ | fail))
  all_goals (simp_all [orOne])
theorem c_sMax1 (n : Int) (h : 0 ≤ n) : FnAt Tryz.prog 43 [.one (I 1), .one (I n)] [.one (.s (I (orOne n)))] := by
  refine fn_of Tryz.func43 rfl (by kernel_rfl) rfl ?_
  all_goals repeat' (first | (with_reducible rfl) | ((conv => whnf); first | exact trivial | (with_reducible rfl) | exact (rfl : (0 : Int) = ((0 : Nat) : Int)) | exact w64_nat arith | refine bcase_T (by first | with_reducible rfl | decide) ?_ | refine bcase_F (by first | with_reducible rfl | decide) ?_ | refine bcase_dec (fun _ => ?_) (fun _ => ?_) | refine bcase_not ?_ | refine bcase_intro (fun _ => ?_) (fun _ => ?_) | refine ⟨(by with_reducible rfl), ?_⟩ | refine ⟨congrArg vi ?_, ?_⟩ | refine ⟨congrArg vb ?_, ?_⟩ | refine ⟨rfl, ?_⟩ | refine ⟨(by kernel_rfl : drawOK _ = true), ?_⟩ | refine Or.inl ?_ | refine ⟨⟨congrArg (T.int _) ?_, rfl⟩, ?_⟩ | refine ⟨⟨congrArg T.bool ?_, rfl⟩, ?_⟩ | refine ⟨⟨rfl, Nat.le_of_ble_eq_true rfl⟩, ?_⟩ | refine ⟨⟨rfl, rfl⟩, ?_⟩ | refine ⟨⟨rfl, (by decide)⟩, ?_⟩ | refine ⟨⟨rfl, ?_⟩, ?_⟩ | refine ⟨Or.inr rfl, ?_⟩ | refine ⟨Or.inl rfl, ?_⟩ | refine ⟨⟨⟨rfl, rfl, rfl⟩, ?_⟩, ?_⟩ | refine ⟨_, _, rfl, row_get _ _ arith, rfl, ?_⟩ | refine ⟨Or.inr (by repeat (first | exact trivial | refine ⟨rfl, ?_⟩)), ?_⟩ | refine ⟨(?_ : _ = ([] : List (List T))), ?_⟩ | fail))
  all_goals (unfold orOne; split <;> omega)
theorem c_l13Cipher (k c : Int) : FnAt Tryz.prog 137 [.one (I k), .one (I c)] [.one (.s (I (cellKey k c)))] := by
  refine fn_of Tryz.func137 rfl (by kernel_rfl) rfl ?_
  all_goals repeat' (first | (with_reducible rfl) | ((conv => whnf); first | exact trivial | (with_reducible rfl) | exact (rfl : (0 : Int) = ((0 : Nat) : Int)) | exact w64_nat arith | refine bcase_T (by first | with_reducible rfl | decide) ?_ | refine bcase_F (by first | with_reducible rfl | decide) ?_ | refine bcase_dec (fun _ => ?_) (fun _ => ?_) | refine bcase_not ?_ | refine bcase_intro (fun _ => ?_) (fun _ => ?_) | refine ⟨(by with_reducible rfl), ?_⟩ | refine ⟨congrArg vi ?_, ?_⟩ | refine ⟨congrArg vb ?_, ?_⟩ | refine ⟨rfl, ?_⟩ | refine ⟨(by kernel_rfl : drawOK _ = true), ?_⟩ | refine Or.inl ?_ | refine ⟨⟨congrArg (T.int _) ?_, rfl⟩, ?_⟩ | refine ⟨⟨congrArg T.bool ?_, rfl⟩, ?_⟩ | refine ⟨⟨rfl, Nat.le_of_ble_eq_true rfl⟩, ?_⟩ | refine ⟨⟨rfl, rfl⟩, ?_⟩ | refine ⟨⟨rfl, (by decide)⟩, ?_⟩ | refine ⟨⟨rfl, ?_⟩, ?_⟩ | refine ⟨Or.inr rfl, ?_⟩ | refine ⟨Or.inl rfl, ?_⟩ | refine ⟨⟨⟨rfl, rfl, rfl⟩, ?_⟩, ?_⟩ | refine ⟨_, _, rfl, row_get _ _ arith, rfl, ?_⟩ | refine ⟨Or.inr (by repeat (first | exact trivial | refine ⟨rfl, ?_⟩)), ?_⟩ | refine ⟨(?_ : _ = ([] : List (List T))), ?_⟩ | refine ⟨_, c_sKeyedHash k [67, c] (by simp), ?_⟩ | refine ⟨_, c_sMax1 _ (khash_range _ _).1, ?_⟩ | fail))
  all_goals rfl
def plainOk (p : DPlain) : Bool := inR p.Kind 0 3 && decide ((p.Body.length : Int) ≤ 14)
def sealOk (k c : Int) (p : DPlain) : Bool := inR k 1 2147483646 && inR c 0 1000000000000 && plainOk p
def sealPlain (s : Int) (p : DPlain) : List UInt8 := Vm.byteOf p.Kind :: Vm.byteOf p.Body.length :: (p.Body ++ (stream s 18).drop p.Body.length)
def sealData (k c : Int) (p : DPlain) : List UInt8 := encB (cellKey k c) (sealPlain (khash k [61, c]) p)
def sealCell (k c : Int) (p : DPlain) : List UInt8 := if sealOk k c p then sealData k c p ++ bytes4 (cellCheck k c (sealData k c p)) else []
theorem c_sIsValidPlain (p : DPlain) : FnAt Tryz.prog 134 [.agg (DPlain.e p)] [.one (.s (.bool (plainOk p)))] := by
  refine fn_of Tryz.func134 rfl (by kernel_rfl) rfl ?_
  all_goals repeat' (first | (with_reducible rfl) | ((conv => whnf); first | exact trivial | (with_reducible rfl) | exact (rfl : (0 : Int) = ((0 : Nat) : Int)) | exact w64_nat arith | refine bcase_T (by first | with_reducible rfl | decide) ?_ | refine bcase_F (by first | with_reducible rfl | decide) ?_ | refine bcase_dec (fun _ => ?_) (fun _ => ?_) | refine bcase_not ?_ | refine bcase_intro (fun _ => ?_) (fun _ => ?_) | refine ⟨(by with_reducible rfl), ?_⟩ | refine ⟨congrArg vi ?_, ?_⟩ | refine ⟨congrArg vb ?_, ?_⟩ | refine ⟨rfl, ?_⟩ | refine ⟨(by kernel_rfl : drawOK _ = true), ?_⟩ | refine Or.inl ?_ | refine ⟨⟨congrArg (T.int _) ?_, rfl⟩, ?_⟩ | refine ⟨⟨congrArg T.bool ?_, rfl⟩, ?_⟩ | refine ⟨⟨rfl, Nat.le_of_ble_eq_true rfl⟩, ?_⟩ | refine ⟨⟨rfl, rfl⟩, ?_⟩ | refine ⟨⟨rfl, (by decide)⟩, ?_⟩ | refine ⟨⟨rfl, ?_⟩, ?_⟩ | refine ⟨Or.inr rfl, ?_⟩ | refine ⟨Or.inl rfl, ?_⟩ | refine ⟨⟨⟨rfl, rfl, rfl⟩, ?_⟩, ?_⟩ | refine ⟨_, _, rfl, row_get _ _ arith, rfl, ?_⟩ | refine ⟨Or.inr (by repeat (first | exact trivial | refine ⟨rfl, ?_⟩)), ?_⟩ | refine ⟨(?_ : _ = ([] : List (List T))), ?_⟩ | refine ⟨_, c_l1In _ _ _, ?_⟩ | fail))
  all_goals (simp_all [plainOk])
theorem stream18_len (s : Int) : (stream s 18).length = 18 := by rw [stream_T (by decide), strm_len]; rfl
theorem sealPlain_len (s : Int) (p : DPlain) : (sealPlain s p).length ≤ p.Body.length + 20 := by
  have := stream18_len s
  simp only [sealPlain, List.length_cons, List.length_append, List.length_drop]
  omega
theorem seal_rows (k c : Int) (p : DPlain) : (sealPlain (khash k [61, c]) p).map eU = ([[U8 (IntKind.u8.wrap p.Kind)], [U8 (IntKind.u8.wrap ((p.Body.map eU).length : Nat))]] ++ p.Body.map eU) ++ (((stream (khash k [61, c]) 18).map eU).take ((stream (khash k [61, c]) 18).map eU).length).drop (p.Body.map eU).length := by
  rw [u8_wrap, u8_wrap, List.take_length, List.length_map, ← List.map_drop]
  simp only [sealPlain, List.map_cons, List.map_append]
  rfl
theorem c_sSealCell (k c : Int) (p : DPlain) (hp : p.Body.length ≤ 1048576) : FnAt Tryz.prog 126 [.one (I k), .one (I c), .agg (DPlain.e p)] [.one (.l 1 ((sealCell k c p).map eU)), .one (.s (.bool (sealOk k c p)))] := by
  have hm : (p.Body.map eU).length = p.Body.length := List.length_map eU
  have hsl := stream18_len (khash k [61, c])
  have hsm : ((stream (khash k [61, c]) 18).map eU).length = 18 := by rw [List.length_map, hsl]
  have hpl := sealPlain_len (khash k [61, c]) p
  have hb4 := bytes4_len (cellCheck k c (sealData k c p))
  have hel : (sealData k c p).length = (sealPlain (khash k [61, c]) p).length := encB_len _ _
  have hel2 : (encB (cellKey k c) (sealPlain (khash k [61, c]) p)).length = (sealPlain (khash k [61, c]) p).length := encB_len _ _
  by_cases hok : sealOk k c p = true
  · have hok' := hok
    simp only [sealOk, Bool.and_eq_true] at hok'
    obtain ⟨⟨h1, h2⟩, h3⟩ := hok'
    have h4 : (p.Body.length : Int) ≤ 14 := by simp only [plainOk, Bool.and_eq_true, decide_eq_true_eq] at h3; exact h3.2
    refine fn_of Tryz.func126 rfl (by kernel_rfl) rfl ?_
    all_goals repeat' (first | (with_reducible rfl) | ((conv => whnf); first | refine ⟨_, c_sIsValidKey _, ?_⟩ | refine ⟨_, c_l1In _ _ _, ?_⟩ | refine ⟨_, c_sIsValidPlain p, ?_⟩ | refine bcase_F (by rw [h1]; rfl) ?_ | refine bcase_F (by rw [h2]; rfl) ?_ | refine bcase_F (by rw [h3]; rfl) ?_ | refine ⟨_, c_sKeyedHash k [61, c] (by simp), ?_⟩ | refine ⟨_, c_sStreamBytes _ 18, ?_⟩ | refine ⟨_, c_l13Cipher k c, ?_⟩ | refine ⟨(by decide), ?_⟩ | (rw [bytes4_run]; refine ⟨true, fun _ => scalU _, fun r hr => lenU _ r hr, ⟨bnd, bnd⟩, ?_⟩) | refine ⟨true, fun _ => scalU _, ⟨rfl, rfl⟩, ⟨bnd, bnd⟩, ?_⟩ | refine ⟨true, fun _ => scalU _, lenU _, ⟨bnd, bnd⟩, ?_⟩ | refine ⟨true, fun _ => (by simp [isScal]), ⟨rfl, rfl⟩, ⟨bnd, bnd⟩, ?_⟩ | refine ⟨_, _, rfl, rfl, ⟨(by omega), Nat.le_refl _⟩, ?_⟩ | refine ⟨true, fun _ r hr => scalU _ r (List.mem_of_mem_take (List.mem_of_mem_drop hr)), fun r hr => lenU _ r (List.mem_of_mem_take (List.mem_of_mem_drop hr)), ⟨bnd, bnd⟩, ?_⟩ | refine ⟨_, fn_args (c_sEncrypt (cellKey k c) (sealPlain (khash k [61, c]) p) (by omega)) (congrArg (fun r => [V.one (I (cellKey k c)), V.one (.lst r)]) (seal_rows k c p).symm), ?_⟩ | refine ⟨_, c_sCellCheck k c (sealData k c p) (by omega), ?_⟩ | exact trivial | (with_reducible rfl) | exact (rfl : (0 : Int) = ((0 : Nat) : Int)) | exact w64_nat arith | refine bcase_T (by first | with_reducible rfl | decide) ?_ | refine bcase_F (by first | with_reducible rfl | decide) ?_ | refine bcase_dec (fun _ => ?_) (fun _ => ?_) | refine bcase_not ?_ | refine bcase_intro (fun _ => ?_) (fun _ => ?_) | refine ⟨(by with_reducible rfl), ?_⟩ | refine ⟨congrArg vi ?_, ?_⟩ | refine ⟨congrArg vb ?_, ?_⟩ | refine ⟨rfl, ?_⟩ | refine ⟨(by kernel_rfl : drawOK _ = true), ?_⟩ | refine Or.inl ?_ | refine ⟨⟨congrArg (T.int _) ?_, rfl⟩, ?_⟩ | refine ⟨⟨congrArg T.bool ?_, rfl⟩, ?_⟩ | refine ⟨⟨rfl, Nat.le_of_ble_eq_true rfl⟩, ?_⟩ | refine ⟨⟨rfl, rfl⟩, ?_⟩ | refine ⟨⟨rfl, (by decide)⟩, ?_⟩ | refine ⟨⟨rfl, ?_⟩, ?_⟩ | refine ⟨Or.inr rfl, ?_⟩ | refine ⟨Or.inl rfl, ?_⟩ | refine ⟨⟨⟨rfl, rfl, rfl⟩, ?_⟩, ?_⟩ | refine ⟨_, _, rfl, row_get _ _ arith, rfl, ?_⟩ | refine ⟨Or.inr (by repeat (first | exact trivial | refine ⟨rfl, ?_⟩)), ?_⟩ | refine ⟨(?_ : _ = ([] : List (List T))), ?_⟩ | fail))
    all_goals first
      | exact hok.symm
      | (unfold sealCell; rw [hok, if_pos rfl, List.map_append, ← bytes4_run]; rfl)
  · have e := eq_false_of_ne_true hok
    refine fn_of Tryz.func126 rfl (by kernel_rfl) rfl ?_
    all_goals repeat' (first | (with_reducible rfl) | ((conv => whnf); first | exact trivial | (with_reducible rfl) | exact (rfl : (0 : Int) = ((0 : Nat) : Int)) | exact w64_nat arith | refine bcase_T (by first | with_reducible rfl | decide) ?_ | refine bcase_F (by first | with_reducible rfl | decide) ?_ | refine bcase_dec (fun _ => ?_) (fun _ => ?_) | refine bcase_not ?_ | refine bcase_intro (fun _ => ?_) (fun _ => ?_) | refine ⟨(by with_reducible rfl), ?_⟩ | refine ⟨congrArg vi ?_, ?_⟩ | refine ⟨congrArg vb ?_, ?_⟩ | refine ⟨rfl, ?_⟩ | refine ⟨(by kernel_rfl : drawOK _ = true), ?_⟩ | refine Or.inl ?_ | refine ⟨⟨congrArg (T.int _) ?_, rfl⟩, ?_⟩ | refine ⟨⟨congrArg T.bool ?_, rfl⟩, ?_⟩ | refine ⟨⟨rfl, Nat.le_of_ble_eq_true rfl⟩, ?_⟩ | refine ⟨⟨rfl, rfl⟩, ?_⟩ | refine ⟨⟨rfl, (by decide)⟩, ?_⟩ | refine ⟨⟨rfl, ?_⟩, ?_⟩ | refine ⟨Or.inr rfl, ?_⟩ | refine ⟨Or.inl rfl, ?_⟩ | refine ⟨⟨⟨rfl, rfl, rfl⟩, ?_⟩, ?_⟩ | refine ⟨_, _, rfl, row_get _ _ arith, rfl, ?_⟩ | refine ⟨Or.inr (by repeat (first | exact trivial | refine ⟨rfl, ?_⟩)), ?_⟩ | refine ⟨(?_ : _ = ([] : List (List T))), ?_⟩ | refine ⟨_, c_sIsValidKey _, ?_⟩ | refine ⟨_, c_l1In _ _ _, ?_⟩ | refine ⟨_, c_sIsValidPlain p, ?_⟩ | fail))
    all_goals first
      | exact e.symm
      | (unfold sealCell; rw [e]; rfl)
      | (exfalso; exact hok (by unfold sealOk; grind))
      | skip
end Go.Proofs.YteecgbgdmfjogaaGreat
