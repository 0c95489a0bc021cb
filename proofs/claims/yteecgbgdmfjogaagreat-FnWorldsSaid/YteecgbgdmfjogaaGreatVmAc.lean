/-
  Plain laws of bytes, lists and hashes. No program in sight.
  A function that is proved by hand at known values, walked into by the evaluator.
  Plain laws of exclusive or, of ciphers and of sealed cells. No program in sight.
  Conditions: the table of types fits the program ('TOk').
-/
import Derived.Test.YteecgbgdmfjogaaGreatVmZ
import Derived.Laws.BitsAllLaws
import Derived.Laws.BitsLemmas
namespace Go.Vm
open Go.RowKit

/-! ### Bytes -/
def byteOf (n : Int) : UInt8 := UInt8.ofNat (n % 256).toNat
theorem byteOf_int (n : Int) : ((byteOf n).toNat : Int) = n % 256 := by
  unfold byteOf
  rw [UInt8.toNat_ofNat']
  omega
theorem u8_wrap (n : Int) : IntKind.u8.wrap n = ((byteOf n).toNat : Int) := by rw [byteOf_int, IntKind.wrap_u8]
theorem u8_lt (b : UInt8) : (b.toNat : Int) < 256 := by have := b.toNat_lt; omega
theorem u8_inj {a b : UInt8} (h : (a.toNat : Int) = (b.toNat : Int)) : a = b := UInt8.toNat_inj.1 (by omega)
theorem u8_eq (a b : UInt8) : ((a.toNat : Int) == (b.toNat : Int)) = (a == b) := by
  by_cases h : a = b
  · subst h; simp
  · rw [beq_eq_false_iff_ne.2 h, beq_eq_false_iff_ne.2 (fun e => h (u8_inj e))]
theorem u8_T {a b : UInt8} (h : (a.toNat : Int) = (b.toNat : Int)) : (a == b) = true := by rw [u8_inj h]; simp
theorem u8_F {a b : UInt8} (h : ¬ (a.toNat : Int) = (b.toNat : Int)) : (a == b) = false := beq_eq_false_iff_ne.2 (fun e => h (by rw [e]))
theorem u8_ne (a b : UInt8) : ((a.toNat : Int) != (b.toNat : Int)) = (a != b) := by simp only [bne, u8_eq]
theorem u8_xor2 (a b : UInt8) : bits .xor .u8 (a.toNat : Int) (b.toNat : Int) = ((a ^^^ b).toNat : Int) := by rw [u8_xor_nat _ _ a.toNat_lt b.toNat_lt, UInt8.toNat_xor]
theorem byteOf_self (b : UInt8) : byteOf (b.toNat : Int) = b := u8_inj (by rw [byteOf_int]; have := u8_lt b; omega)
theorem byteOf_eq {m n : Int} (h : m % 256 = n % 256) : byteOf m = byteOf n := u8_inj (by rw [byteOf_int, byteOf_int, h])
theorem wrap_byte (b : UInt8) : IntKind.i64.wrap (b.toNat : Int) = (b.toNat : Int) := by have := u8_lt b; exact w64_ok (by omega) (by omega)
theorem bytes_toList (xs : List UInt8) : (⟨xs.toArray⟩ : ByteArray).toList = xs := by
  have key : ∀ (n i : Nat) (r : List UInt8), xs.length - i = n → ByteArray.toList.loop ⟨xs.toArray⟩ i r = r.reverse ++ xs.drop i := by
    intro n
    induction n with
    | zero =>
      intro i r h
      unfold ByteArray.toList.loop
      rw [if_neg (by show ¬ i < xs.toArray.size; simp; omega), List.drop_of_length_le (by omega), List.append_nil]
    | succ n ih =>
      intro i r h
      unfold ByteArray.toList.loop
      rw [if_pos (by show i < xs.toArray.size; simp; omega), ih (i + 1) _ (by omega)]
      have hi : i < xs.length := by omega
      rw [List.drop_eq_getElem_cons hi]
      have : (⟨xs.toArray⟩ : ByteArray).get! i = xs[i] := by
        show xs.toArray.getD i _ = _
        simp [hi]
      rw [this]
      simp
  have := key (xs.length - 0) 0 [] rfl
  simpa [ByteArray.toList] using this
theorem str_eq (xs ys : List UInt8) : ((⟨xs.toArray⟩ : ByteArray).toList == (⟨ys.toArray⟩ : ByteArray).toList) = (xs == ys) := by rw [bytes_toList, bytes_toList]

/-! ### Lists -/
theorem eqL_beq {α : Type} [BEq α] : ∀ (xs ys : List α), eqL (fun x y => x == y) xs ys = (xs == ys)
  | [], [] => rfl
  | [], _ :: _ => rfl
  | _ :: _, [] => rfl
  | x :: xs, y :: ys => by simp only [eqL, List.cons_beq_cons, eqL_beq xs ys]
theorem eqL_congr {α β : Type} {p q : α → β → Bool} (h : ∀ x y, p x y = q x y) : ∀ (xs : List α) (ys : List β), eqL p xs ys = eqL q xs ys
  | [], [] => rfl
  | [], _ :: _ => rfl
  | _ :: _, [] => rfl
  | x :: xs, y :: ys => by simp only [eqL, h, eqL_congr h xs ys]
theorem eqL_step_T {α β : Type} {p : α → β → Bool} {xs : List α} {ys : List β} {i : Nat} (h1 : i < xs.length) (h2 : i < ys.length) (h : p xs[i] ys[i] = true) : eqL p (xs.drop i) (ys.drop i) = eqL p (xs.drop (i + 1)) (ys.drop (i + 1)) := by
  rw [eqL_step h1 h2, h, Bool.true_and]
theorem eqL_step_F {α β : Type} {p : α → β → Bool} {xs : List α} {ys : List β} {i : Nat} (h1 : i < xs.length) (h2 : i < ys.length) (h : p xs[i] ys[i] = false) : eqL p (xs.drop i) (ys.drop i) = false := by
  rw [eqL_step h1 h2, h, Bool.false_and]
/-- Is there one behind the first i? -/
theorem any_step {α : Type} {p : α → Bool} {xs : List α} {i : Nat} (h : i < xs.length) : (xs.drop i).any p = (p xs[i] || (xs.drop (i + 1)).any p) := by
  rw [List.drop_eq_getElem_cons h, List.any_cons]
theorem any_end {α : Type} {p : α → Bool} {xs : List α} {i : Nat} (h : xs.length ≤ i) : (xs.drop i).any p = false := by rw [List.drop_of_length_le h]; rfl
theorem all_step {α : Type} {p : α → Bool} {xs : List α} {i : Nat} (h : i < xs.length) : (xs.drop i).all p = (p xs[i] && (xs.drop (i + 1)).all p) := by
  rw [List.drop_eq_getElem_cons h, List.all_cons]
theorem all_end {α : Type} {p : α → Bool} {xs : List α} {i : Nat} (h : xs.length ≤ i) : (xs.drop i).all p = true := by rw [List.drop_of_length_le h]; rfl
theorem map_take_succ {α β : Type} (f : α → β) (xs : List α) {i : Nat} (h : i < xs.length) : (xs.take (i + 1)).map f = (xs.take i).map f ++ [f xs[i]] := by
  rw [List.take_succ_eq_append_getElem h, List.map_append]
  rfl
/-- A call's argument in other words. -/
theorem fn_arg1 {P : Program} {f : FuncId} {x y : T} {as : List V} {rs : List RV} (h : FnAt P f (.one x :: as) rs) (e : y = x) : FnAt P f (.one y :: as) rs := e ▸ h
theorem fn_args {P : Program} {f : FuncId} {as bs : List V} {rs : List RV} (h : FnAt P f as rs) (e : bs = as) : FnAt P f bs rs := e ▸ h

theorem scalU (xs : List UInt8) : ∀ r ∈ xs.map eU, ∀ x ∈ r, isScal x = true := by
  intro r hr x hx
  obtain ⟨a, _, rfl⟩ := List.mem_map.1 hr
  simp only [eU, List.mem_singleton] at hx
  subst hx
  rfl
theorem scalI (xs : List Int) : ∀ r ∈ xs.map eI, ∀ x ∈ r, isScal x = true := by
  intro r hr x hx
  obtain ⟨a, _, rfl⟩ := List.mem_map.1 hr
  simp only [eI, List.mem_singleton] at hx
  subst hx
  rfl
theorem lenU (xs : List UInt8) : ∀ r ∈ xs.map eU, r.length = 1 := by
  intro r hr
  obtain ⟨a, _, rfl⟩ := List.mem_map.1 hr
  rfl
theorem lenI (xs : List Int) : ∀ r ∈ xs.map eI, r.length = 1 := by
  intro r hr
  obtain ⟨a, _, rfl⟩ := List.mem_map.1 hr
  rfl
theorem lenL {α : Type} (f : α → List T) (xs : List (List α)) : ∀ r ∈ xs.map (eL f), r.length = 1 := by
  intro r hr
  obtain ⟨a, _, rfl⟩ := List.mem_map.1 hr
  rfl
theorem any_T {α : Type} {p : α → Bool} {xs : List α} {i : Nat} (h : i < xs.length) (hp : p xs[i] = true) : (xs.drop i).any p = true := by rw [any_step h, hp, Bool.true_or]
theorem any_F {α : Type} {p : α → Bool} {xs : List α} {i : Nat} (h : i < xs.length) (hp : p xs[i] = false) : (xs.drop i).any p = (xs.drop (i + 1)).any p := by rw [any_step h, hp, Bool.false_or]
theorem all_T {α : Type} {p : α → Bool} {xs : List α} {i : Nat} (h : i < xs.length) (hp : p xs[i] = true) : (xs.drop i).all p = (xs.drop (i + 1)).all p := by rw [all_step h, hp, Bool.true_and]
theorem all_F {α : Type} {p : α → Bool} {xs : List α} {i : Nat} (h : i < xs.length) (hp : p xs[i] = false) : (xs.drop i).all p = false := by rw [all_step h, hp, Bool.false_and]
/-- The place of the first that fulfils it, counted from k; -1 without one. -/
def idxF {α : Type} (p : α → Bool) : List α → Int → Int
  | [], _ => -1
  | x :: xs, k => if p x then k else idxF p xs (k + 1)
theorem idxF_T {α : Type} {p : α → Bool} {xs : List α} {i : Nat} {k : Int} (h : i < xs.length) (hp : p xs[i] = true) : idxF p (xs.drop i) k = k := by rw [List.drop_eq_getElem_cons h, idxF, if_pos hp]
theorem idxF_F {α : Type} {p : α → Bool} {xs : List α} {i : Nat} {k : Int} (h : i < xs.length) (hp : p xs[i] = false) : idxF p (xs.drop i) k = idxF p (xs.drop (i + 1)) (k + 1) := by
  rw [List.drop_eq_getElem_cons h, idxF, hp]
  rfl
theorem idxF_end {α : Type} {p : α → Bool} {xs : List α} {i : Nat} {k : Int} (h : xs.length ≤ i) : idxF p (xs.drop i) k = -1 := by rw [List.drop_of_length_le h]; rfl
theorem idxF_any {α : Type} {p : α → Bool} : ∀ (xs : List α) {k : Int}, 0 ≤ k → decide (0 ≤ idxF p xs k) = xs.any p
  | [], k, _ => rfl
  | x :: xs, k, h => by
    simp only [idxF, List.any_cons]
    split
    · rename_i hp; rw [hp, Bool.true_or]; exact decide_eq_true h
    · rename_i hp; rw [eq_false_of_ne_true hp, Bool.false_or]; exact idxF_any xs (by omega)
/-- All of so many numbers from one on. -/
def allN (p : Nat → Bool) : Nat → Nat → Bool
  | 0, _ => true
  | k + 1, i => p i && allN p k (i + 1)
theorem allN_step {p : Nat → Bool} {n i : Nat} (h : i < n) : allN p (n - i) i = (p i && allN p (n - (i + 1)) (i + 1)) := by
  rw [show n - i = (n - (i + 1)) + 1 by omega]
  rfl
theorem allN_T {p : Nat → Bool} {n i : Nat} (h : i < n) (hp : p i = true) : allN p (n - i) i = allN p (n - (i + 1)) (i + 1) := by rw [allN_step h, hp, Bool.true_and]
theorem allN_F {p : Nat → Bool} {n i : Nat} (h : i < n) (hp : p i = false) : allN p (n - i) i = false := by rw [allN_step h, hp, Bool.false_and]
theorem allN_end {p : Nat → Bool} {n i : Nat} (h : n ≤ i) : allN p (n - i) i = true := by rw [show n - i = 0 by omega]; rfl
theorem allN_iff {p : Nat → Bool} : ∀ (k i : Nat), allN p k i = true ↔ ∀ j, i ≤ j → j < i + k → p j = true
  | 0, i => ⟨fun _ j h1 h2 => by omega, fun _ => rfl⟩
  | k + 1, i => by
    rw [allN, Bool.and_eq_true, allN_iff k (i + 1)]
    constructor
    · intro ⟨h1, h2⟩ j h3 h4
      by_cases e : j = i
      · subst e; exact h1
      · exact h2 j (by omega) (by omega)
    · intro h
      exact ⟨h i (by omega) (by omega), fun j h1 h2 => h j (by omega) (by omega)⟩
/-- Does one of the first i fulfil it; the first that does. -/
def firstP {α : Type} (p : α → Bool) : List α → Option α
  | [] => none
  | x :: xs => if p x then some x else firstP p xs
theorem firstP_step {α : Type} {p : α → Bool} {xs : List α} {i : Nat} (h : i < xs.length) : firstP p (xs.drop i) = if p xs[i] then some xs[i] else firstP p (xs.drop (i + 1)) := by
  rw [List.drop_eq_getElem_cons h]
  rfl
theorem firstP_end {α : Type} {p : α → Bool} {xs : List α} {i : Nat} (h : xs.length ≤ i) : firstP p (xs.drop i) = none := by rw [List.drop_of_length_le h]; rfl
theorem filter_take_succ {α : Type} (p : α → Bool) (xs : List α) {i : Nat} (h : i < xs.length) : (xs.take (i + 1)).filter p = (xs.take i).filter p ++ if p xs[i] then [xs[i]] else [] := by
  rw [List.take_succ_eq_append_getElem h, List.filter_append]
  congr 1
  simp only [List.filter_cons, List.filter_nil]

/-! ### Hashes -/
/-- The remainder of the program: 0 where the modulus is out of range. -/
@[irreducible] def md (q p : Int) : Int := if 1 ≤ q ∧ q ≤ 1000000000000 then p % q else 0
theorem md_run {p q : Int} (h1 : 1 ≤ q) (h2 : q ≤ 1000000000000) : (IntKind.i64.wrap (p.tmod q + q)).tmod q = p % q := by
  have hl := Int.tmod_lt_of_pos p (show 0 < q by omega)
  have hg : -q < p.tmod q := by have := Int.lt_tmod_of_pos p (show 0 < q by omega); omega
  rw [w64_ok (by omega) (by omega), Int.tmod_eq_emod_of_nonneg (by omega), Int.add_emod_right]
  have e : p.tmod q = p - q * (p.tdiv q) := by have := Int.mul_tdiv_add_tmod p q; omega
  rw [e, Int.sub_mul_emod_self_left]
def hstep (h v : Int) : Int := (h * 1000003 + v % 2147483647 + 13) % 2147483647
@[irreducible] def hsh (l : List Int) : Int := l.foldl hstep 11
theorem hsh_range (l : List Int) : 0 ≤ hsh l ∧ hsh l < 2147483647 := by
  unfold hsh
  rcases List.eq_nil_or_concat l with rfl | ⟨xs, x, rfl⟩
  · decide
  · rw [List.concat_eq_append, List.foldl_append]
    simp only [List.foldl_cons, List.foldl_nil, hstep]
    omega
theorem hstep_run {h : Int} (h1 : 0 ≤ h) (h2 : h < 2147483647) (v : Int) : (IntKind.i64.wrap (IntKind.i64.wrap (IntKind.i64.wrap (h * 1000003) + v % 2147483647) + 13)).tmod 2147483647 = hstep h v := by
  have := Int.emod_nonneg v (show (2147483647 : Int) ≠ 0 by decide)
  have := Int.emod_lt_of_pos v (show (0 : Int) < 2147483647 by decide)
  unfold hstep
  generalize v % 2147483647 = r at *
  rw [w64_ok (n := h * 1000003) (by omega) (by omega), w64_ok (n := h * 1000003 + r) (by omega) (by omega), w64_ok (by omega) (by omega), Int.tmod_eq_emod_of_nonneg (by omega)]
theorem hsh_take (l : List Int) {i : Nat} (h : i < l.length) : hsh (l.take (i + 1)) = hstep (hsh (l.take i)) l[i] := by unfold hsh; exact foldl_take hstep 11 l h
theorem hsh_nil : hsh [] = 11 := by unfold hsh; rfl
@[irreducible] def khash (k : Int) (l : List Int) : Int := hsh (k :: (l ++ [k]))
theorem khash_range (k : Int) (l : List Int) : 0 ≤ khash k l ∧ khash k l < 2147483647 := by unfold khash; exact hsh_range _
/-- 1 in the place of 0. -/
def orOne (n : Int) : Int := if n = 0 then 1 else n
theorem orOne_max {n : Int} (h : 0 ≤ n) : (if n > 1 then n else 1) = orOne n := by unfold orOne; split <;> split <;> omega
@[irreducible] def child (s d : Int) : Int := (khash s [47, d] * khash s [47, d] + 5) % 2147483647
theorem child_range (s d : Int) : 0 ≤ child s d ∧ child s d < 2147483647 := by unfold child; omega
theorem child_run (s d : Int) : (IntKind.i64.wrap (IntKind.i64.wrap (khash s [47, d] * khash s [47, d]) + 5)).tmod 2147483647 = child s d := by
  have h := khash_range s [47, d]
  unfold child
  generalize khash s [47, d] = x at *
  have h1 : 0 ≤ x * x := Int.mul_nonneg h.1 h.1
  have h2 : x * x ≤ 2147483647 * 2147483647 := Int.mul_le_mul (by omega) (by omega) h.1 (by omega)
  rw [w64_ok (n := x * x) (by omega) (by omega), w64_ok (by omega) (by omega), Int.tmod_eq_emod_of_nonneg (by omega)]
/-- The first bytes of a seed's stream. -/
@[irreducible] def strm (s : Int) (n : Nat) : List UInt8 := (List.range n).map fun i : Nat => byteOf (child s (100 + i) / 256)
theorem strm_succ (s : Int) (n : Nat) : strm s (n + 1) = strm s n ++ [byteOf (child s (100 + (n : Int)) / 256)] := by simp [strm, List.range_succ]
theorem strm_len (s : Int) (n : Nat) : (strm s n).length = n := by simp [strm]
@[irreducible] def stream (s n : Int) : List UInt8 := if 0 ≤ n ∧ n ≤ 400 then strm s n.toNat else []
/-- Exclusive or, the shorter list filled up with zeros. -/
def xorB : List UInt8 → List UInt8 → List UInt8
  | [], b => b
  | a, [] => a
  | x :: a, y :: b => (x ^^^ y) :: xorB a b
theorem xorB_nil (a : List UInt8) : xorB a [] = a := by cases a <;> rfl
theorem xorB_len : ∀ a b : List UInt8, (xorB a b).length = max a.length b.length
  | [], b => by simp [xorB]
  | x :: a, [] => by simp [xorB]
  | x :: a, y :: b => by simp only [xorB, List.length_cons, xorB_len a b]; omega
theorem xorB_comm : ∀ a b : List UInt8, xorB a b = xorB b a
  | [], b => by rw [xorB_nil]; rfl
  | x :: a, [] => rfl
  | x :: a, y :: b => by simp only [xorB, xorB_comm a b, UInt8.xor_comm]
theorem xorB_get : ∀ (a b : List UInt8) (i : Nat), i < max a.length b.length → (xorB a b)[i]? = some ((a[i]?.getD 0) ^^^ (b[i]?.getD 0))
  | [], b, i, h => by
    simp only [List.length_nil] at h
    have : i < b.length := by omega
    simp [xorB, this]
  | x :: a, [], i, h => by
    simp only [List.length_nil] at h
    have : i < (x :: a).length := by omega
    simp only [xorB, List.getElem?_nil, Option.getD_none, UInt8.xor_zero]
    rw [List.getElem?_eq_getElem this]
    rfl
  | x :: a, y :: b, 0, h => by simp [xorB]
  | x :: a, y :: b, i + 1, h => by
    simp only [List.length_cons] at h
    simp only [xorB, List.getElem?_cons_succ]
    exact xorB_get a b i (by omega)
end Go.Vm

namespace Go.Vm
open Go.RowKit

/-- What a call owes whose results read as 'rs', in new memory. -/
def Owes (rs : List RV) (w : World) (e : Ending) (w' : World) : Prop :=
  ∃ us F v, e = .returned v ∧ retOf us v ∧ repRVs w' rs us F ∧ F.Nodup ∧
    (∀ b ∈ F, w.heap.size ≤ b ∧ ∃ arr e, w'.heap[b]? = some (.cells arr e (0, 0))) ∧ Below w.heap.size w w'

theorem inAt_of {P : Program} {f : FuncId} {avs : List AV} {vs0 : List Value} {rs : List RV} {σ : St} {K : AV → St → Prop} (hent : Enter P f)
    (hfn : ∀ w, Calls P f vs0.toArray w (Owes rs w)) (hav : ∀ O G w vs, repAVs O G w avs vs → vs = vs0) (hk : K (impR σ rs).1 ⟨σ.env, (impR σ rs).2.objs, (impR σ rs).2.next⟩) : InAt P f avs σ K := by
  refine ⟨hent, fun w0 G w vs R hm hwf hrep hfr hR => ?_⟩
  obtain rfl := hav _ _ _ _ hrep
  refine (hfn w).mono fun e w' hpost => ?_
  obtain ⟨us, F, v, rfl, hret, hus, hnd, hfresh, hb⟩ := hpost
  obtain ⟨l, imp⟩ := impR_sound hwf hus hret
  have hext := imp.ext
  have hnl : ∀ j, G.A j → get (impR σ rs).2.objs j = get σ.objs j := fun j hj => hext.objs j (hfr j hj)
  have hp : Pres σ.objs G w (impR σ rs).2.objs G w := ⟨fun id h => ⟨h, rfl⟩, fun id hl b hb => .inl ⟨id, ⟨hl.1, by obtain ⟨ob, hob⟩ := hl.2; exact ⟨ob, by rw [← hnl id hl.1]; exact hob⟩⟩, hb⟩, fun _ _ _ => rfl, Nat.le_refl _, rfl, rfl⟩
  have hlv : ∀ id, Lv (impR σ rs).2.objs G id → Lv σ.objs G id := fun id hl => ⟨hl.1, by obtain ⟨ob, hob⟩ := hl.2; exact ⟨ob, by rw [← hnl id hl.1]; exact hob⟩⟩
  have hM : Mem w0 (impR σ rs).2.objs G w :=
    ⟨hm.below, hm.base, hm.fix, fun id ob ha ho => Ob.rep_pres hp rfl rfl rfl (hm.hds id (hlv id ⟨ha, ob, ho⟩)) (fun _ _ => rfl) ob (hm.obs id ob ha (by rw [← hnl id ha]; exact ho)),
      fun id hl => hm.nodup id (hlv id hl), fun i j hi hj => hm.disj i j (hlv i hi) (hlv j hj), fun id hl => hm.lo id (hlv id hl), fun id hl => hm.hds id (hlv id hl)⟩
  have hlt : ∀ j, σ.next ≤ j → j < σ.next + l.length → ¬ G.A j := fun j h1 _ h3 => by have := hfr j h3; omega
  obtain ⟨hM', hp'⟩ := hM.newL σ.next l hlt hb (by rw [imp.flat]; exact hnd) (fun p hp b hbp => hfresh b (by rw [← imp.flat]; exact List.mem_flatten.2 ⟨p.2, List.mem_map.2 ⟨p, hp, rfl⟩, hbp⟩)) imp.hds
    (fun k o hk ho p => by
      have hn := Gh.addL_new (G := G) (n := σ.next) hk
      exact imp.obs k hk o ho _ _ hn.1 hn.2)
  refine hR _ _ _ _ v w' hk imp.wf hM' (hp.trans hp') (imp.rep _ _ fun k hk => ?_) (fun j hj => ?_)
  · have hn := Gh.addL_new (G := G) (n := σ.next) hk
    exact ⟨.inr ⟨by omega, by omega⟩, hn.1⟩
  · show j < (impR σ rs).2.next
    rw [imp.next]
    rcases hj with hj | hj
    · have := hfr j hj
      omega
    · omega

/-- 'nil', a number. -/
theorem nil_int_vals {n : Int} {O : List (Nat × Ob)} {G : Gh} {w : World} {vs : List Value} (h : repAVs O G w [.c .nil, .c (.t (.int .i64 n))] vs) : vs = [.slice none 0 0, .int .i64 n] := by
  simp only [repAVs] at h
  obtain ⟨v, vs', rfl, h1, u, us, rfl, h2, rfl⟩ := h
  have h1' : v = .slice none 0 0 := by simpa only [AV.rep, C.rep] using h1
  rw [h1', int_of h2]
/-- A new row, of which nothing is shown yet. -/
theorem owes_empty {w w' : World} {v : Value} {sz : Nat} (h : (v = .slice none 0 0 ∧ w' = w) ∨ ∃ cap cur e, v = .slice (some ⟨w.heap.size, 0, none⟩) 0 cap ∧ 0 < cap ∧ cap ≤ maxLen ∧ cur.size = cap * sz ∧ w' = w.drew.alloc (.cells cur e)) :
    Owes [.one (.l sz [])] w (.returned v) w' := by
  rcases h with ⟨rfl, rfl⟩ | ⟨cap, cur, e, rfl, hp, hm, hs, rfl⟩
  · refine ⟨[.slice none 0 0], [], _, rfl, rfl, ?_, by simp, by simp, Below.refl _ _⟩
    refine ⟨_, [], [], [], rfl, rfl, ?_, rfl, rfl⟩
    exact ⟨[], [], by simp [repRows], by simp, ⟨by simp, .inl ⟨none, rfl, rfl⟩⟩, by simp [hd]⟩
  · have hh := Go.heap_alloc_new w.drew (.cells cur e)
    obtain ⟨c, rfl⟩ : ∃ c, cap = c + 1 := ⟨cap - 1, by omega⟩
    refine ⟨[_], [w.heap.size], _, rfl, rfl, ?_, by simp, fun b hb => ?_, ?_⟩
    · refine ⟨_, [], [w.heap.size], [], rfl, by simp, ?_, rfl, rfl⟩
      exact ⟨[], [], by simp [repRows], by simp, ⟨by simp, .inr ⟨w.heap.size, 0, c + 1, cur, e, rfl, hp, hh, Nat.zero_le _, hm, by rw [hs, Nat.zero_add], by simp⟩⟩, by simp [hd]⟩
    · simp only [List.mem_singleton] at hb
      subst hb
      exact ⟨Nat.le_refl _, cur, e, hh⟩
    · exact ⟨rfl, rfl, rfl, by simp, fun k hk => Below.heap_alloc w.drew _ k hk⟩
end Go.Vm

namespace Go.Vm
open Go.RowKit

/-! ### Renaming by slots and by cells of boxes -/
def cellRef (σ : St) (k : Nat) : Nat → Option Nat
  | 0 => slotRef σ.env k
  | c + 1 => match slotRef σ.env k with
    | some id => match get σ.objs id with
      | some (.box cs) => match cs[c]? with
        | some (.ref r) => some r
        | _ => none
      | _ => none
    | none => none
def cellRho (σ : St) : List (Nat × Nat × Nat) → List (Nat × Option Nat)
  | [] => []
  | (i, k, c) :: r => (i, cellRef σ k c) :: cellRho σ r
theorem sub_at2 {σ σ' : St} (ks : List (Nat × Nat × Nat)) (h1 : nodupB (somes (cellRho σ ks)) = true) (h2 : nodupB ((cellRho σ ks).map (·.1)) = true) (h3 : ((cellRho σ ks).all fun p => Nat.blt p.1 σ'.next) = true)
    (h4 : subEnv (cellRho σ ks) σ.env σ'.env) (h5 : subObjs (cellRho σ ks) σ.objs σ'.next σ'.objs) : Sub σ σ' := ⟨cellRho σ ks, h1, h2, h3, h4, h5⟩

/-! ### A list that is changed in place, from the left -/
def part {α : Type} (f : Nat → α → α) (b : List α) (i : Nat) : List α := (b.mapIdx f).take i ++ b.drop i
section
variable {α : Type} {f : Nat → α → α} {b : List α} {i : Nat}
theorem part_zero : part f b 0 = b := by simp [part]
theorem part_len : (part f b i).length = b.length := by simp [part]; omega
theorem part_all (h : b.length ≤ i) : part f b i = b.mapIdx f := by
  rw [part, List.take_of_length_le (by rw [List.length_mapIdx]; exact h), List.drop_of_length_le h, List.append_nil]
theorem part_get (h : i < b.length) : (part f b i)[i]? = some b[i] := by
  rw [part, List.getElem?_append_right (by simp; omega)]
  simp only [List.length_take, List.length_mapIdx, Nat.min_eq_left (Nat.le_of_lt h), Nat.sub_self]
  rw [List.getElem?_drop]
  simp [h]
theorem part_set (h : i < b.length) : (part f b i).set i (f i b[i]) = part f b (i + 1) := by
  have hm : i < (b.mapIdx f).length := by rw [List.length_mapIdx]; exact h
  rw [part, List.set_append_right _ _ (by simp; omega)]
  simp only [List.length_take, List.length_mapIdx, Nat.min_eq_left (Nat.le_of_lt h), Nat.sub_self]
  rw [List.drop_eq_getElem_cons h, List.set_cons_zero, part, List.take_succ_eq_append_getElem hm, List.append_assoc]
  simp
theorem part_stop {n : Nat} (h : ∀ (j : Nat) (hj : j < b.length), n ≤ j → f j b[j] = b[j]) (hn : n ≤ b.length) : part f b n = b.mapIdx f := by
  apply List.ext_getElem?
  intro j
  by_cases hj : j < n
  · rw [part, List.getElem?_append_left (by simp; omega), List.getElem?_take_of_lt hj]
  · rw [part, List.getElem?_append_right (by simp; omega)]
    simp only [List.length_take, List.length_mapIdx, Nat.min_eq_left hn, List.getElem?_drop, List.getElem?_mapIdx]
    rw [show n + (j - n) = j by omega]
    by_cases hl : j < b.length
    · rw [List.getElem?_eq_getElem hl]
      simp [h j hl (by omega)]
    · rw [List.getElem?_eq_none (by omega)]
      rfl
end

/-! ### Exclusive or -/
theorem xorB_mapIdx : ∀ (a b : List UInt8), b.length ≤ a.length → a.mapIdx (fun i x => x ^^^ (b[i]?.getD 0)) = xorB a b := by
  intro a b h
  apply List.ext_getElem?
  intro i
  rw [List.getElem?_mapIdx]
  by_cases hi : i < a.length
  · rw [xorB_get a b i (by omega), List.getElem?_eq_getElem hi]
    simp
  · have h1 : a[i]? = none := List.getElem?_eq_none (by omega)
    have h2 : (xorB a b)[i]? = none := List.getElem?_eq_none (by rw [xorB_len]; omega)
    rw [h1, h2]
    rfl
theorem xorB_take (a b : List UInt8) {i : Nat} (h : i < max a.length b.length) : (xorB a b).take (i + 1) = (xorB a b).take i ++ [(a[i]?.getD 0) ^^^ (b[i]?.getD 0)] := by
  have hl : i < (xorB a b).length := by rw [xorB_len]; exact h
  have hg := xorB_get a b i h
  rw [List.getElem?_eq_getElem hl] at hg
  injection hg with hg
  rw [List.take_succ_eq_append_getElem hl, hg]

/-! ### Ciphers -/
@[irreducible] def encB (k : Int) (b : List UInt8) : List UInt8 := b.mapIdx fun i x => byteOf ((x.toNat : Int) + khash k [(i : Int)])
@[irreducible] def decB (k : Int) (b : List UInt8) : List UInt8 := b.mapIdx fun i x => byteOf ((x.toNat : Int) - khash k [(i : Int)])
theorem encB_len (k : Int) (b : List UInt8) : (encB k b).length = b.length := by unfold encB; rw [List.length_mapIdx]
theorem decB_len (k : Int) (b : List UInt8) : (decB k b).length = b.length := by unfold decB; rw [List.length_mapIdx]
theorem decB_encB (k : Int) (b : List UInt8) : decB k (encB k b) = b := by
  unfold decB encB
  apply List.ext_getElem?
  intro i
  rw [List.getElem?_mapIdx, List.getElem?_mapIdx]
  by_cases hi : i < b.length
  · rw [List.getElem?_eq_getElem hi]
    simp only [Option.map_some, Option.some.injEq]
    apply u8_inj
    rw [byteOf_int, byteOf_int]
    have := u8_lt b[i]
    omega
  · rw [List.getElem?_eq_none (by omega)]
    rfl
theorem khash_tmod (k : Int) (l : List Int) : (khash k l).tmod 256 = khash k l % 256 := Int.tmod_eq_emod_of_nonneg (khash_range k l).1
theorem enc_run (x : UInt8) (k : Int) (l : List Int) : IntKind.u8.wrap ((x.toNat : Int) + IntKind.u8.wrap ((khash k l).tmod 256)) = ((byteOf ((x.toNat : Int) + khash k l)).toNat : Int) := by
  rw [byteOf_int, IntKind.wrap_u8, IntKind.wrap_u8, khash_tmod]; omega
theorem dec_run (x : UInt8) (k : Int) (l : List Int) : IntKind.u8.wrap ((x.toNat : Int) - IntKind.u8.wrap ((khash k l).tmod 256)) = ((byteOf ((x.toNat : Int) - khash k l)).toNat : Int) := by
  rw [byteOf_int, IntKind.wrap_u8, IntKind.wrap_u8, khash_tmod]; omega
theorem enc_run2 (x : UInt8) (k : Int) (l : List Int) : IntKind.u8.wrap ((IntKind.i64.wrap (IntKind.i64.wrap (x.toNat : Int) + (khash k l).tmod 256)).tmod 256) = ((byteOf ((x.toNat : Int) + khash k l)).toNat : Int) := by
  have h1 := u8_lt x
  rw [byteOf_int, IntKind.wrap_u8, wrap_byte, khash_tmod, w64_ok (by omega) (by omega), Int.tmod_eq_emod_of_nonneg (by omega)]; omega
theorem md256 (p : Int) : md 256 p = p % 256 := by unfold md; rw [if_pos (by decide)]
theorem dec_run2 (x : UInt8) (k : Int) (l : List Int) : IntKind.u8.wrap (md 256 (IntKind.i64.wrap (IntKind.i64.wrap (x.toNat : Int) - (khash k l).tmod 256))) = ((byteOf ((x.toNat : Int) - khash k l)).toNat : Int) := by
  have h1 := u8_lt x
  rw [byteOf_int, IntKind.wrap_u8, wrap_byte, khash_tmod, w64_ok (by omega) (by omega), md256]; omega
/-- What a cell's check is of. -/
@[irreducible] def cellCheck (k c : Int) (d : List UInt8) : Int := khash k (71 :: c :: d.map fun x => (x.toNat : Int))
theorem cellCheck_range (k c : Int) (d : List UInt8) : 0 ≤ cellCheck k c d ∧ cellCheck k c d < 2147483647 := by unfold cellCheck; exact khash_range _ _
/-- A number's four bytes. -/
def bytes4 (n : Int) : List UInt8 := [byteOf n, byteOf (n / 256), byteOf (n / 65536), byteOf (n / 16777216)]
/-- The four bytes of a number below 2^32 tell it. -/
theorem bytes4_tell {a b c d : UInt8} {n : Int} (h0 : 0 ≤ n) (h1 : n < 4294967296) : ([a, b, c, d] == bytes4 n) = decide ((a.toNat : Int) + 256 * b.toNat + 65536 * c.toNat + 16777216 * d.toNat = n) := by
  have ha := u8_lt a; have hb := u8_lt b; have hc := u8_lt c; have hd := u8_lt d
  have e : ∀ (x : UInt8) (m : Int), x = byteOf m ↔ (x.toNat : Int) = m % 256 := fun x m => ⟨fun h => by rw [h, byteOf_int], fun h => u8_inj (by rw [byteOf_int]; exact h)⟩
  rw [Bool.eq_iff_iff]
  simp only [bytes4, beq_iff_eq, List.cons.injEq, and_true, e, decide_eq_true_eq]
  omega
end Go.Vm
