/-
  Plain laws of exclusive or, of ciphers and of sealed cells. No program in sight.
  Conditions: none.
-/
import Derived.Test.YtpelgajmebgbaaaVmAa
namespace Go.Vm
open Go.RowKit

/-! ### Renaming by slots and by cells of boxes -/
def cellRef (σ : St) (k : Nat) : Nat → Option Nat
  | 0 => slotRef σ.env k
  | c + 1 => match slotRef σ.env k with
    | some id => match get σ.objs id with
      | some (.box cs) => match cs[c]? with
        | some (.ref r) => some r
        | _ => none
      | _ => none
    | none => none
def cellRho (σ : St) : List (Nat × Nat × Nat) → List (Nat × Option Nat)
  | [] => []
  | (i, k, c) :: r => (i, cellRef σ k c) :: cellRho σ r
theorem sub_at2 {σ σ' : St} (ks : List (Nat × Nat × Nat)) (h1 : nodupB (somes (cellRho σ ks)) = true) (h2 : nodupB ((cellRho σ ks).map (·.1)) = true) (h3 : ((cellRho σ ks).all fun p => Nat.blt p.1 σ'.next) = true)
    (h4 : subEnv (cellRho σ ks) σ.env σ'.env) (h5 : subObjs (cellRho σ ks) σ.objs σ'.next σ'.objs) : Sub σ σ' := ⟨cellRho σ ks, h1, h2, h3, h4, h5⟩

/-! ### A list that is changed in place, from the left -/
def part {α : Type} (f : Nat → α → α) (b : List α) (i : Nat) : List α := (b.mapIdx f).take i ++ b.drop i
section
variable {α : Type} {f : Nat → α → α} {b : List α} {i : Nat}
theorem part_zero : part f b 0 = b := by simp [part]
theorem part_len : (part f b i).length = b.length := by simp [part]; omega
theorem part_all (h : b.length ≤ i) : part f b i = b.mapIdx f := by
  rw [part, List.take_of_length_le (by rw [List.length_mapIdx]; exact h), List.drop_of_length_le h, List.append_nil]
theorem part_get (h : i < b.length) : (part f b i)[i]? = some b[i] := by
  rw [part, List.getElem?_append_right (by simp; omega)]
  simp only [List.length_take, List.length_mapIdx, Nat.min_eq_left (Nat.le_of_lt h), Nat.sub_self]
  rw [List.getElem?_drop]
  simp [h]
theorem part_set (h : i < b.length) : (part f b i).set i (f i b[i]) = part f b (i + 1) := by
  have hm : i < (b.mapIdx f).length := by rw [List.length_mapIdx]; exact h
  rw [part, List.set_append_right _ _ (by simp; omega)]
  simp only [List.length_take, List.length_mapIdx, Nat.min_eq_left (Nat.le_of_lt h), Nat.sub_self]
  rw [List.drop_eq_getElem_cons h, List.set_cons_zero, part, List.take_succ_eq_append_getElem hm, List.append_assoc]
  simp
theorem part_stop {n : Nat} (h : ∀ (j : Nat) (hj : j < b.length), n ≤ j → f j b[j] = b[j]) (hn : n ≤ b.length) : part f b n = b.mapIdx f := by
  apply List.ext_getElem?
  intro j
  by_cases hj : j < n
  · rw [part, List.getElem?_append_left (by simp; omega), List.getElem?_take_of_lt hj]
  · rw [part, List.getElem?_append_right (by simp; omega)]
    simp only [List.length_take, List.length_mapIdx, Nat.min_eq_left hn, List.getElem?_drop, List.getElem?_mapIdx]
    rw [show n + (j - n) = j by omega]
    by_cases hl : j < b.length
    · rw [List.getElem?_eq_getElem hl]
      simp [h j hl (by omega)]
    · rw [List.getElem?_eq_none (by omega)]
      rfl
end

/-! ### Exclusive or -/
theorem xorB_mapIdx : ∀ (a b : List UInt8), b.length ≤ a.length → a.mapIdx (fun i x => x ^^^ (b[i]?.getD 0)) = xorB a b := by
  intro a b h
  apply List.ext_getElem?
  intro i
  rw [List.getElem?_mapIdx]
  by_cases hi : i < a.length
  · rw [xorB_get a b i (by omega), List.getElem?_eq_getElem hi]
    simp
  · have h1 : a[i]? = none := List.getElem?_eq_none (by omega)
    have h2 : (xorB a b)[i]? = none := List.getElem?_eq_none (by rw [xorB_len]; omega)
    rw [h1, h2]
    rfl
theorem xorB_take (a b : List UInt8) {i : Nat} (h : i < max a.length b.length) : (xorB a b).take (i + 1) = (xorB a b).take i ++ [(a[i]?.getD 0) ^^^ (b[i]?.getD 0)] := by
  have hl : i < (xorB a b).length := by rw [xorB_len]; exact h
  have hg := xorB_get a b i h
  rw [List.getElem?_eq_getElem hl] at hg
  injection hg with hg
  rw [List.take_succ_eq_append_getElem hl, hg]

/-! ### Ciphers -/
@[irreducible] def encB (k : Int) (b : List UInt8) : List UInt8 := b.mapIdx fun i x => byteOf ((x.toNat : Int) + khash k [(i : Int)])
@[irreducible] def decB (k : Int) (b : List UInt8) : List UInt8 := b.mapIdx fun i x => byteOf ((x.toNat : Int) - khash k [(i : Int)])
theorem encB_len (k : Int) (b : List UInt8) : (encB k b).length = b.length := by unfold encB; rw [List.length_mapIdx]
theorem decB_len (k : Int) (b : List UInt8) : (decB k b).length = b.length := by unfold decB; rw [List.length_mapIdx]
theorem decB_encB (k : Int) (b : List UInt8) : decB k (encB k b) = b := by
  unfold decB encB
  apply List.ext_getElem?
  intro i
  rw [List.getElem?_mapIdx, List.getElem?_mapIdx]
  by_cases hi : i < b.length
  · rw [List.getElem?_eq_getElem hi]
    simp only [Option.map_some, Option.some.injEq]
    apply u8_inj
    rw [byteOf_int, byteOf_int]
    have := u8_lt b[i]
    omega
  · rw [List.getElem?_eq_none (by omega)]
    rfl
theorem khash_tmod (k : Int) (l : List Int) : (khash k l).tmod 256 = khash k l % 256 := Int.tmod_eq_emod_of_nonneg (khash_range k l).1
theorem enc_run (x : UInt8) (k : Int) (l : List Int) : IntKind.u8.wrap ((x.toNat : Int) + IntKind.u8.wrap ((khash k l).tmod 256)) = ((byteOf ((x.toNat : Int) + khash k l)).toNat : Int) := by
  rw [byteOf_int, IntKind.wrap_u8, IntKind.wrap_u8, khash_tmod]; omega
theorem dec_run (x : UInt8) (k : Int) (l : List Int) : IntKind.u8.wrap ((x.toNat : Int) - IntKind.u8.wrap ((khash k l).tmod 256)) = ((byteOf ((x.toNat : Int) - khash k l)).toNat : Int) := by
  rw [byteOf_int, IntKind.wrap_u8, IntKind.wrap_u8, khash_tmod]; omega
theorem enc_run2 (x : UInt8) (k : Int) (l : List Int) : IntKind.u8.wrap ((IntKind.i64.wrap (IntKind.i64.wrap (x.toNat : Int) + (khash k l).tmod 256)).tmod 256) = ((byteOf ((x.toNat : Int) + khash k l)).toNat : Int) := by
  have h1 := u8_lt x
  rw [byteOf_int, IntKind.wrap_u8, wrap_byte, khash_tmod, w64_ok (by omega) (by omega), Int.tmod_eq_emod_of_nonneg (by omega)]; omega
theorem md256 (p : Int) : md 256 p = p % 256 := by unfold md; rw [if_pos (by decide)]
theorem dec_run2 (x : UInt8) (k : Int) (l : List Int) : IntKind.u8.wrap (md 256 (IntKind.i64.wrap (IntKind.i64.wrap (x.toNat : Int) - (khash k l).tmod 256))) = ((byteOf ((x.toNat : Int) - khash k l)).toNat : Int) := by
  have h1 := u8_lt x
  rw [byteOf_int, IntKind.wrap_u8, wrap_byte, khash_tmod, w64_ok (by omega) (by omega), md256]; omega
/-- What a cell's check is of. -/
@[irreducible] def cellCheck (k c : Int) (d : List UInt8) : Int := khash k (71 :: c :: d.map fun x => (x.toNat : Int))
theorem cellCheck_range (k c : Int) (d : List UInt8) : 0 ≤ cellCheck k c d ∧ cellCheck k c d < 2147483647 := by unfold cellCheck; exact khash_range _ _
/-- A number's four bytes. -/
def bytes4 (n : Int) : List UInt8 := [byteOf n, byteOf (n / 256), byteOf (n / 65536), byteOf (n / 16777216)]
/-- The four bytes of a number below 2^32 tell it. -/
theorem bytes4_tell {a b c d : UInt8} {n : Int} (h0 : 0 ≤ n) (h1 : n < 4294967296) : ([a, b, c, d] == bytes4 n) = decide ((a.toNat : Int) + 256 * b.toNat + 65536 * c.toNat + 16777216 * d.toNat = n) := by
  have ha := u8_lt a; have hb := u8_lt b; have hc := u8_lt c; have hd := u8_lt d
  have e : ∀ (x : UInt8) (m : Int), x = byteOf m ↔ (x.toNat : Int) = m % 256 := fun x m => ⟨fun h => by rw [h, byteOf_int], fun h => u8_inj (by rw [byteOf_int]; exact h)⟩
  rw [Bool.eq_iff_iff]
  simp only [bytes4, beq_iff_eq, List.cons.injEq, and_true, e, decide_eq_true_eq]
  omega
end Go.Vm
