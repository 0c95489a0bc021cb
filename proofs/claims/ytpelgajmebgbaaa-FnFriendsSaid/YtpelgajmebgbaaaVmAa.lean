/-
  Plain laws of bytes, lists and hashes. No program in sight.
  Conditions: none.
-/
import Derived.Test.YtpelgajmebgbaaaVmZ
import Derived.Laws.BitsAllLaws
import Derived.Laws.BitsLemmas
namespace Go.Vm
open Go.RowKit

/-! ### Bytes -/
def byteOf (n : Int) : UInt8 := UInt8.ofNat (n % 256).toNat
theorem byteOf_int (n : Int) : ((byteOf n).toNat : Int) = n % 256 := by
  unfold byteOf
  rw [UInt8.toNat_ofNat']
  omega
theorem u8_wrap (n : Int) : IntKind.u8.wrap n = ((byteOf n).toNat : Int) := by rw [byteOf_int, IntKind.wrap_u8]
theorem u8_lt (b : UInt8) : (b.toNat : Int) < 256 := by have := b.toNat_lt; omega
theorem u8_inj {a b : UInt8} (h : (a.toNat : Int) = (b.toNat : Int)) : a = b := UInt8.toNat_inj.1 (by omega)
theorem u8_eq (a b : UInt8) : ((a.toNat : Int) == (b.toNat : Int)) = (a == b) := by
  by_cases h : a = b
  · subst h; simp
  · rw [beq_eq_false_iff_ne.2 h, beq_eq_false_iff_ne.2 (fun e => h (u8_inj e))]
theorem u8_T {a b : UInt8} (h : (a.toNat : Int) = (b.toNat : Int)) : (a == b) = true := by rw [u8_inj h]; simp
theorem u8_F {a b : UInt8} (h : ¬ (a.toNat : Int) = (b.toNat : Int)) : (a == b) = false := beq_eq_false_iff_ne.2 (fun e => h (by rw [e]))
theorem u8_ne (a b : UInt8) : ((a.toNat : Int) != (b.toNat : Int)) = (a != b) := by simp only [bne, u8_eq]
theorem u8_xor2 (a b : UInt8) : bits .xor .u8 (a.toNat : Int) (b.toNat : Int) = ((a ^^^ b).toNat : Int) := by rw [u8_xor_nat _ _ a.toNat_lt b.toNat_lt, UInt8.toNat_xor]
theorem byteOf_self (b : UInt8) : byteOf (b.toNat : Int) = b := u8_inj (by rw [byteOf_int]; have := u8_lt b; omega)
theorem byteOf_eq {m n : Int} (h : m % 256 = n % 256) : byteOf m = byteOf n := u8_inj (by rw [byteOf_int, byteOf_int, h])
theorem wrap_byte (b : UInt8) : IntKind.i64.wrap (b.toNat : Int) = (b.toNat : Int) := by have := u8_lt b; exact w64_ok (by omega) (by omega)
theorem bytes_toList (xs : List UInt8) : (⟨xs.toArray⟩ : ByteArray).toList = xs := by
  have key : ∀ (n i : Nat) (r : List UInt8), xs.length - i = n → ByteArray.toList.loop ⟨xs.toArray⟩ i r = r.reverse ++ xs.drop i := by
    intro n
    induction n with
    | zero =>
      intro i r h
      unfold ByteArray.toList.loop
      rw [if_neg (by show ¬ i < xs.toArray.size; simp; omega), List.drop_of_length_le (by omega), List.append_nil]
    | succ n ih =>
      intro i r h
      unfold ByteArray.toList.loop
      rw [if_pos (by show i < xs.toArray.size; simp; omega), ih (i + 1) _ (by omega)]
      have hi : i < xs.length := by omega
      rw [List.drop_eq_getElem_cons hi]
      have : (⟨xs.toArray⟩ : ByteArray).get! i = xs[i] := by
        show xs.toArray.getD i _ = _
        simp [hi]
      rw [this]
      simp
  have := key (xs.length - 0) 0 [] rfl
  simpa [ByteArray.toList] using this
theorem str_eq (xs ys : List UInt8) : ((⟨xs.toArray⟩ : ByteArray).toList == (⟨ys.toArray⟩ : ByteArray).toList) = (xs == ys) := by rw [bytes_toList, bytes_toList]

/-! ### Lists -/
theorem eqL_beq {α : Type} [BEq α] : ∀ (xs ys : List α), eqL (fun x y => x == y) xs ys = (xs == ys)
  | [], [] => rfl
  | [], _ :: _ => rfl
  | _ :: _, [] => rfl
  | x :: xs, y :: ys => by simp only [eqL, List.cons_beq_cons, eqL_beq xs ys]
theorem eqL_congr {α β : Type} {p q : α → β → Bool} (h : ∀ x y, p x y = q x y) : ∀ (xs : List α) (ys : List β), eqL p xs ys = eqL q xs ys
  | [], [] => rfl
  | [], _ :: _ => rfl
  | _ :: _, [] => rfl
  | x :: xs, y :: ys => by simp only [eqL, h, eqL_congr h xs ys]
theorem eqL_step_T {α β : Type} {p : α → β → Bool} {xs : List α} {ys : List β} {i : Nat} (h1 : i < xs.length) (h2 : i < ys.length) (h : p xs[i] ys[i] = true) : eqL p (xs.drop i) (ys.drop i) = eqL p (xs.drop (i + 1)) (ys.drop (i + 1)) := by
  rw [eqL_step h1 h2, h, Bool.true_and]
theorem eqL_step_F {α β : Type} {p : α → β → Bool} {xs : List α} {ys : List β} {i : Nat} (h1 : i < xs.length) (h2 : i < ys.length) (h : p xs[i] ys[i] = false) : eqL p (xs.drop i) (ys.drop i) = false := by
  rw [eqL_step h1 h2, h, Bool.false_and]
/-- Is there one behind the first i? -/
theorem any_step {α : Type} {p : α → Bool} {xs : List α} {i : Nat} (h : i < xs.length) : (xs.drop i).any p = (p xs[i] || (xs.drop (i + 1)).any p) := by
  rw [List.drop_eq_getElem_cons h, List.any_cons]
theorem any_end {α : Type} {p : α → Bool} {xs : List α} {i : Nat} (h : xs.length ≤ i) : (xs.drop i).any p = false := by rw [List.drop_of_length_le h]; rfl
theorem all_step {α : Type} {p : α → Bool} {xs : List α} {i : Nat} (h : i < xs.length) : (xs.drop i).all p = (p xs[i] && (xs.drop (i + 1)).all p) := by
  rw [List.drop_eq_getElem_cons h, List.all_cons]
theorem all_end {α : Type} {p : α → Bool} {xs : List α} {i : Nat} (h : xs.length ≤ i) : (xs.drop i).all p = true := by rw [List.drop_of_length_le h]; rfl
theorem map_take_succ {α β : Type} (f : α → β) (xs : List α) {i : Nat} (h : i < xs.length) : (xs.take (i + 1)).map f = (xs.take i).map f ++ [f xs[i]] := by
  rw [List.take_succ_eq_append_getElem h, List.map_append]
  rfl
/-- A call's argument in other words. -/
theorem fn_arg1 {P : Program} {f : FuncId} {x y : T} {as : List V} {rs : List RV} (h : FnAt P f (.one x :: as) rs) (e : y = x) : FnAt P f (.one y :: as) rs := e ▸ h
theorem fn_args {P : Program} {f : FuncId} {as bs : List V} {rs : List RV} (h : FnAt P f as rs) (e : bs = as) : FnAt P f bs rs := e ▸ h

theorem scalU (xs : List UInt8) : ∀ r ∈ xs.map eU, ∀ x ∈ r, isScal x = true := by
  intro r hr x hx
  obtain ⟨a, _, rfl⟩ := List.mem_map.1 hr
  simp only [eU, List.mem_singleton] at hx
  subst hx
  rfl
theorem scalI (xs : List Int) : ∀ r ∈ xs.map eI, ∀ x ∈ r, isScal x = true := by
  intro r hr x hx
  obtain ⟨a, _, rfl⟩ := List.mem_map.1 hr
  simp only [eI, List.mem_singleton] at hx
  subst hx
  rfl
theorem lenU (xs : List UInt8) : ∀ r ∈ xs.map eU, r.length = 1 := by
  intro r hr
  obtain ⟨a, _, rfl⟩ := List.mem_map.1 hr
  rfl
theorem lenI (xs : List Int) : ∀ r ∈ xs.map eI, r.length = 1 := by
  intro r hr
  obtain ⟨a, _, rfl⟩ := List.mem_map.1 hr
  rfl
theorem lenL {α : Type} (f : α → List T) (xs : List (List α)) : ∀ r ∈ xs.map (eL f), r.length = 1 := by
  intro r hr
  obtain ⟨a, _, rfl⟩ := List.mem_map.1 hr
  rfl
theorem any_T {α : Type} {p : α → Bool} {xs : List α} {i : Nat} (h : i < xs.length) (hp : p xs[i] = true) : (xs.drop i).any p = true := by rw [any_step h, hp, Bool.true_or]
theorem any_F {α : Type} {p : α → Bool} {xs : List α} {i : Nat} (h : i < xs.length) (hp : p xs[i] = false) : (xs.drop i).any p = (xs.drop (i + 1)).any p := by rw [any_step h, hp, Bool.false_or]
theorem all_T {α : Type} {p : α → Bool} {xs : List α} {i : Nat} (h : i < xs.length) (hp : p xs[i] = true) : (xs.drop i).all p = (xs.drop (i + 1)).all p := by rw [all_step h, hp, Bool.true_and]
theorem all_F {α : Type} {p : α → Bool} {xs : List α} {i : Nat} (h : i < xs.length) (hp : p xs[i] = false) : (xs.drop i).all p = false := by rw [all_step h, hp, Bool.false_and]
/-- The place of the first that fulfils it, counted from k; -1 without one. -/
def idxF {α : Type} (p : α → Bool) : List α → Int → Int
  | [], _ => -1
  | x :: xs, k => if p x then k else idxF p xs (k + 1)
theorem idxF_T {α : Type} {p : α → Bool} {xs : List α} {i : Nat} {k : Int} (h : i < xs.length) (hp : p xs[i] = true) : idxF p (xs.drop i) k = k := by rw [List.drop_eq_getElem_cons h, idxF, if_pos hp]
theorem idxF_F {α : Type} {p : α → Bool} {xs : List α} {i : Nat} {k : Int} (h : i < xs.length) (hp : p xs[i] = false) : idxF p (xs.drop i) k = idxF p (xs.drop (i + 1)) (k + 1) := by
  rw [List.drop_eq_getElem_cons h, idxF, hp]
  rfl
theorem idxF_end {α : Type} {p : α → Bool} {xs : List α} {i : Nat} {k : Int} (h : xs.length ≤ i) : idxF p (xs.drop i) k = -1 := by rw [List.drop_of_length_le h]; rfl
theorem idxF_any {α : Type} {p : α → Bool} : ∀ (xs : List α) {k : Int}, 0 ≤ k → decide (0 ≤ idxF p xs k) = xs.any p
  | [], k, _ => rfl
  | x :: xs, k, h => by
    simp only [idxF, List.any_cons]
    split
    · rename_i hp; rw [hp, Bool.true_or]; exact decide_eq_true h
    · rename_i hp; rw [eq_false_of_ne_true hp, Bool.false_or]; exact idxF_any xs (by omega)
/-- All of so many numbers from one on. -/
def allN (p : Nat → Bool) : Nat → Nat → Bool
  | 0, _ => true
  | k + 1, i => p i && allN p k (i + 1)
theorem allN_step {p : Nat → Bool} {n i : Nat} (h : i < n) : allN p (n - i) i = (p i && allN p (n - (i + 1)) (i + 1)) := by
  rw [show n - i = (n - (i + 1)) + 1 by omega]
  rfl
theorem allN_T {p : Nat → Bool} {n i : Nat} (h : i < n) (hp : p i = true) : allN p (n - i) i = allN p (n - (i + 1)) (i + 1) := by rw [allN_step h, hp, Bool.true_and]
theorem allN_F {p : Nat → Bool} {n i : Nat} (h : i < n) (hp : p i = false) : allN p (n - i) i = false := by rw [allN_step h, hp, Bool.false_and]
theorem allN_end {p : Nat → Bool} {n i : Nat} (h : n ≤ i) : allN p (n - i) i = true := by rw [show n - i = 0 by omega]; rfl
theorem allN_iff {p : Nat → Bool} : ∀ (k i : Nat), allN p k i = true ↔ ∀ j, i ≤ j → j < i + k → p j = true
  | 0, i => ⟨fun _ j h1 h2 => by omega, fun _ => rfl⟩
  | k + 1, i => by
    rw [allN, Bool.and_eq_true, allN_iff k (i + 1)]
    constructor
    · intro ⟨h1, h2⟩ j h3 h4
      by_cases e : j = i
      · subst e; exact h1
      · exact h2 j (by omega) (by omega)
    · intro h
      exact ⟨h i (by omega) (by omega), fun j h1 h2 => h j (by omega) (by omega)⟩
/-- Does one of the first i fulfil it; the first that does. -/
def firstP {α : Type} (p : α → Bool) : List α → Option α
  | [] => none
  | x :: xs => if p x then some x else firstP p xs
theorem firstP_step {α : Type} {p : α → Bool} {xs : List α} {i : Nat} (h : i < xs.length) : firstP p (xs.drop i) = if p xs[i] then some xs[i] else firstP p (xs.drop (i + 1)) := by
  rw [List.drop_eq_getElem_cons h]
  rfl
theorem firstP_end {α : Type} {p : α → Bool} {xs : List α} {i : Nat} (h : xs.length ≤ i) : firstP p (xs.drop i) = none := by rw [List.drop_of_length_le h]; rfl
theorem filter_take_succ {α : Type} (p : α → Bool) (xs : List α) {i : Nat} (h : i < xs.length) : (xs.take (i + 1)).filter p = (xs.take i).filter p ++ if p xs[i] then [xs[i]] else [] := by
  rw [List.take_succ_eq_append_getElem h, List.filter_append]
  congr 1
  simp only [List.filter_cons, List.filter_nil]

/-! ### Hashes -/
/-- The remainder of the program: 0 where the modulus is out of range. -/
@[irreducible] def md (q p : Int) : Int := if 1 ≤ q ∧ q ≤ 1000000000000 then p % q else 0
theorem md_run {p q : Int} (h1 : 1 ≤ q) (h2 : q ≤ 1000000000000) : (IntKind.i64.wrap (p.tmod q + q)).tmod q = p % q := by
  have hl := Int.tmod_lt_of_pos p (show 0 < q by omega)
  have hg : -q < p.tmod q := by have := Int.lt_tmod_of_pos p (show 0 < q by omega); omega
  rw [w64_ok (by omega) (by omega), Int.tmod_eq_emod_of_nonneg (by omega), Int.add_emod_right]
  have e : p.tmod q = p - q * (p.tdiv q) := by have := Int.mul_tdiv_add_tmod p q; omega
  rw [e, Int.sub_mul_emod_self_left]
def hstep (h v : Int) : Int := (h * 1000003 + v % 2147483647 + 13) % 2147483647
@[irreducible] def hsh (l : List Int) : Int := l.foldl hstep 11
theorem hsh_range (l : List Int) : 0 ≤ hsh l ∧ hsh l < 2147483647 := by
  unfold hsh
  rcases List.eq_nil_or_concat l with rfl | ⟨xs, x, rfl⟩
  · decide
  · rw [List.concat_eq_append, List.foldl_append]
    simp only [List.foldl_cons, List.foldl_nil, hstep]
    omega
theorem hstep_run {h : Int} (h1 : 0 ≤ h) (h2 : h < 2147483647) (v : Int) : (IntKind.i64.wrap (IntKind.i64.wrap (IntKind.i64.wrap (h * 1000003) + v % 2147483647) + 13)).tmod 2147483647 = hstep h v := by
  have := Int.emod_nonneg v (show (2147483647 : Int) ≠ 0 by decide)
  have := Int.emod_lt_of_pos v (show (0 : Int) < 2147483647 by decide)
  unfold hstep
  generalize v % 2147483647 = r at *
  rw [w64_ok (n := h * 1000003) (by omega) (by omega), w64_ok (n := h * 1000003 + r) (by omega) (by omega), w64_ok (by omega) (by omega), Int.tmod_eq_emod_of_nonneg (by omega)]
theorem hsh_take (l : List Int) {i : Nat} (h : i < l.length) : hsh (l.take (i + 1)) = hstep (hsh (l.take i)) l[i] := by unfold hsh; exact foldl_take hstep 11 l h
theorem hsh_nil : hsh [] = 11 := by unfold hsh; rfl
@[irreducible] def khash (k : Int) (l : List Int) : Int := hsh (k :: (l ++ [k]))
theorem khash_range (k : Int) (l : List Int) : 0 ≤ khash k l ∧ khash k l < 2147483647 := by unfold khash; exact hsh_range _
/-- 1 in the place of 0. -/
def orOne (n : Int) : Int := if n = 0 then 1 else n
theorem orOne_max {n : Int} (h : 0 ≤ n) : (if n > 1 then n else 1) = orOne n := by unfold orOne; split <;> split <;> omega
@[irreducible] def child (s d : Int) : Int := (khash s [47, d] * khash s [47, d] + 5) % 2147483647
theorem child_range (s d : Int) : 0 ≤ child s d ∧ child s d < 2147483647 := by unfold child; omega
theorem child_run (s d : Int) : (IntKind.i64.wrap (IntKind.i64.wrap (khash s [47, d] * khash s [47, d]) + 5)).tmod 2147483647 = child s d := by
  have h := khash_range s [47, d]
  unfold child
  generalize khash s [47, d] = x at *
  have h1 : 0 ≤ x * x := Int.mul_nonneg h.1 h.1
  have h2 : x * x ≤ 2147483647 * 2147483647 := Int.mul_le_mul (by omega) (by omega) h.1 (by omega)
  rw [w64_ok (n := x * x) (by omega) (by omega), w64_ok (by omega) (by omega), Int.tmod_eq_emod_of_nonneg (by omega)]
/-- The first bytes of a seed's stream. -/
@[irreducible] def strm (s : Int) (n : Nat) : List UInt8 := (List.range n).map fun i : Nat => byteOf (child s (100 + i) / 256)
theorem strm_succ (s : Int) (n : Nat) : strm s (n + 1) = strm s n ++ [byteOf (child s (100 + (n : Int)) / 256)] := by simp [strm, List.range_succ]
theorem strm_len (s : Int) (n : Nat) : (strm s n).length = n := by simp [strm]
@[irreducible] def stream (s n : Int) : List UInt8 := if 0 ≤ n ∧ n ≤ 400 then strm s n.toNat else []
/-- Exclusive or, the shorter list filled up with zeros. -/
def xorB : List UInt8 → List UInt8 → List UInt8
  | [], b => b
  | a, [] => a
  | x :: a, y :: b => (x ^^^ y) :: xorB a b
theorem xorB_nil (a : List UInt8) : xorB a [] = a := by cases a <;> rfl
theorem xorB_len : ∀ a b : List UInt8, (xorB a b).length = max a.length b.length
  | [], b => by simp [xorB]
  | x :: a, [] => by simp [xorB]
  | x :: a, y :: b => by simp only [xorB, List.length_cons, xorB_len a b]; omega
theorem xorB_comm : ∀ a b : List UInt8, xorB a b = xorB b a
  | [], b => by rw [xorB_nil]; rfl
  | x :: a, [] => rfl
  | x :: a, y :: b => by simp only [xorB, xorB_comm a b, UInt8.xor_comm]
theorem xorB_get : ∀ (a b : List UInt8) (i : Nat), i < max a.length b.length → (xorB a b)[i]? = some ((a[i]?.getD 0) ^^^ (b[i]?.getD 0))
  | [], b, i, h => by
    simp only [List.length_nil] at h
    have : i < b.length := by omega
    simp [xorB, this]
  | x :: a, [], i, h => by
    simp only [List.length_nil] at h
    have : i < (x :: a).length := by omega
    simp only [xorB, List.getElem?_nil, Option.getD_none, UInt8.xor_zero]
    rw [List.getElem?_eq_getElem this]
    rfl
  | x :: a, y :: b, 0, h => by simp [xorB]
  | x :: a, y :: b, i + 1, h => by
    simp only [List.length_cons] at h
    simp only [xorB, List.getElem?_cons_succ]
    exact xorB_get a b i (by omega)
end Go.Vm
