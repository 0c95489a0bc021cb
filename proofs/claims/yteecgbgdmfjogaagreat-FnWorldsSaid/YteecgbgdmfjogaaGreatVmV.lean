/-
  Small words and rules for the contracts of functions.
  Conditions: the table of types fits the program ('TOk').
-/
import Derived.Test.YteecgbgdmfjogaaGreatVmAf
namespace Go.Vm
open Go.RowKit

abbrev I (n : Int) : T := .int .i64 n
abbrev U8 (n : Int) : T := .int .u8 n
abbrev vi (n : Int) : AV := .c (.t (.int .i64 n))
abbrev vb (b : Bool) : AV := .c (.t (.bool b))
abbrev vl (rows : List (List T)) : AV := .c (.t (.lst rows))
abbrev w64 (n : Int) : Int := IntKind.i64.wrap n
/-! ### Renaming by slots -/
def slotRef (env : List (Nat × AV)) (k : Nat) : Option Nat := match get env k with
  | some (.c (.ref id)) => some id
  | some (.ptr id _) => some id
  | some (.pin (.c (.ref id))) => some id
  | some (.pin (.ptr id _)) => some id
  | _ => none
def slotRho (env : List (Nat × AV)) : List (Nat × Nat) → List (Nat × Option Nat)
  | [] => []
  | (i, k) :: r => (i, slotRef env k) :: slotRho env r
theorem sub_at {σ σ' : St} (ks : List (Nat × Nat)) (h1 : nodupB (somes (slotRho σ.env ks)) = true) (h2 : nodupB ((slotRho σ.env ks).map (·.1)) = true) (h3 : ((slotRho σ.env ks).all fun p => Nat.blt p.1 σ'.next) = true)
    (h4 : subEnv (slotRho σ.env ks) σ.env σ'.env) (h5 : subObjs (slotRho σ.env ks) σ.objs σ'.next σ'.objs) : Sub σ σ' := ⟨slotRho σ.env ks, h1, h2, h3, h4, h5⟩
/-! ### Data as cells, and what is known of data that came in -/
def eI (n : Int) : List T := [I n]
def eU (n : UInt8) : List T := [U8 (n.toNat : Int)]
def eB (b : Bool) : List T := [.bool b]
def eS (s : ByteArray) : List T := [.str s]
def eL {α : Type} (e : α → List T) (l : List α) : List T := [.lst (l.map e)]
abbrev L {α : Type} (e : α → List T) (l : List α) : T := .lst (l.map e)
def okI (n : Int) : Prop := -9223372036854775808 ≤ n ∧ n ≤ 9223372036854775807
def okU (_ : UInt8) : Prop := True
def okB (_ : Bool) : Prop := True
def okS (s : ByteArray) : Prop := s.size ≤ maxLen
def okL {α : Type} (ok : α → Prop) (l : List α) : Prop := l.length ≤ maxLen ∧ ∀ a ∈ l, ok a

theorem w64_ok {n : Int} (h1 : -9223372036854775808 ≤ n) (h2 : n < 9223372036854775808) : IntKind.i64.wrap n = n := by rw [IntKind.wrap_i64]; omega
theorem w64_nat {n : Nat} (h2 : n < 9223372036854775807) : IntKind.i64.wrap ((n : Int) + 1) = ((n + 1 : Nat) : Int) := by rw [w64_ok (by omega) (by omega)]; omega

theorem bcase_dec {p : Prop} [Decidable p] {x y : Prop} (h1 : p → x) (h2 : ¬ p → y) : bcase (decide p) x y := bcase_intro (fun h => h1 (of_decide_eq_true h)) (fun h => h2 (of_decide_eq_false h))
theorem bcase_not {b : Bool} {x y : Prop} (h : bcase b y x) : bcase (!b) x y := by
  rcases bcase_out h with ⟨rfl, hz⟩ | ⟨rfl, hz⟩
  · exact bcase_F rfl hz
  · exact bcase_T rfl hz
theorem lt_map {α β : Type} {f : α → β} {xs : List α} {i : Nat} (h : (i : Int) < ((xs.map f).length : Int)) : i < xs.length := by rw [List.length_map] at h; omega
theorem ge_map {α β : Type} {f : α → β} {xs : List α} {i : Nat} (h : ¬ (i : Int) < ((xs.map f).length : Int)) : xs.length ≤ i := by rw [List.length_map] at h; omega
theorem row_get {α : Type} (f : α → List T) (xs : List α) {i : Nat} (h : i < xs.length) : (xs.map f)[i]? = some (f xs[i]) := by simp [h]
theorem foldl_take {α β : Type} (f : β → α → β) (b : β) (xs : List α) {i : Nat} (h : i < xs.length) : (xs.take (i + 1)).foldl f b = f ((xs.take i).foldl f b) xs[i] := by
  rw [List.take_succ_eq_append_getElem h, List.foldl_append]
  rfl
theorem take_all {α : Type} (xs : List α) {i : Nat} (h : xs.length ≤ i) : xs.take i = xs := List.take_of_length_le h

/-- A row that is filled from the left. -/
def fill {α : Type} (f : α → List T) (z : List T) (xs : List α) (i : Nat) : List (List T) := (xs.take i).map f ++ List.replicate (xs.length - i) z
section
variable {α : Type} {f : α → List T} {z : List T} {xs : List α} {i : Nat}
theorem fill_zero : fill f z xs 0 = List.replicate xs.length z := by simp [fill]
theorem fill_all (h : xs.length ≤ i) : fill f z xs i = xs.map f := by
  have : xs.length - i = 0 := by omega
  simp [fill, this, List.take_of_length_le h]
theorem fill_len (h : i ≤ xs.length) : (fill f z xs i).length = xs.length := by simp [fill]; omega
theorem fill_get (h : i < xs.length) : (fill f z xs i)[i]? = some z := by
  unfold fill
  rw [List.getElem?_append_right (by simp; omega)]
  simp only [List.length_map, List.length_take]
  rw [Nat.min_eq_left (Nat.le_of_lt h), Nat.sub_self, List.getElem?_replicate, if_pos (by omega)]
theorem fill_set (h : i < xs.length) : (fill f z xs i).set i (f xs[i]) = fill f z xs (i + 1) := by
  unfold fill
  have hr : List.replicate (xs.length - i) z = z :: List.replicate (xs.length - (i + 1)) z := by
    rw [show xs.length - i = (xs.length - (i + 1)) + 1 by omega, List.replicate_succ]
  rw [List.set_append_right _ _ (by simp; omega), hr]
  simp only [List.length_map, List.length_take, Nat.min_eq_left (Nat.le_of_lt h), Nat.sub_self, List.set_cons_zero]
  rw [List.take_succ_eq_append_getElem h, List.map_append]
  simp
end

/-- Two lists, element by element. -/
def eqL {α β : Type} (p : α → β → Bool) : List α → List β → Bool
  | [], [] => true
  | x :: xs, y :: ys => p x y && eqL p xs ys
  | _, _ => false
section
variable {α β : Type} {p : α → β → Bool}
theorem eqL_ne : ∀ {xs : List α} {ys : List β}, xs.length ≠ ys.length → eqL p xs ys = false
  | [], [], h => absurd rfl h
  | [], _ :: _, _ => rfl
  | _ :: _, [], _ => rfl
  | x :: xs, y :: ys, h => by simp only [eqL, eqL_ne (xs := xs) (ys := ys) (by simpa using h), Bool.and_false]
theorem eqL_end {xs : List α} {ys : List β} (hl : xs.length = ys.length) {i : Nat} (h : xs.length ≤ i) : eqL p (xs.drop i) (ys.drop i) = true := by
  rw [List.drop_of_length_le h, List.drop_of_length_le (by omega)]
  rfl
theorem eqL_step {xs : List α} {ys : List β} {i : Nat} (h : i < xs.length) (h2 : i < ys.length) : eqL p (xs.drop i) (ys.drop i) = (p xs[i] ys[i] && eqL p (xs.drop (i + 1)) (ys.drop (i + 1))) := by
  rw [List.drop_eq_getElem_cons h, List.drop_eq_getElem_cons h2]
  rfl
theorem eqL_refl {q : α → α → Bool} (hq : ∀ y, q y y = true) : ∀ xs : List α, eqL q xs xs = true
  | [] => rfl
  | x :: xs => by simp only [eqL, hq, eqL_refl hq xs, Bool.and_self]
end
/-! ### Side conditions that are found by arithmetic -/
theorem arith {p : Prop} (h : p := by ((try dsimp only); first | omega | exact lt_map (by assumption) | exact ge_map (by assumption) | (have := lt_map (by assumption); omega) | (have := ge_map (by assumption); omega) | (have := lt_mkm (by assumption); omega) | (have := ge_mkm (by assumption); omega) | (have := lt_mkr (by assumption); omega) | (have := ge_mkr (by assumption); omega) | (simp only [List.length_map, List.length_replicate] at *; omega))) : p := h
theorem bnd {p : Prop} (h : p := by ((try dsimp only); (try simp only [List.length_map, List.length_append, List.length_take, List.length_drop, List.length_cons, List.length_nil, List.length_replicate]); first | omega | (simp only [List.length_map, List.length_append, List.length_take, List.length_drop, List.length_cons, List.length_nil, List.length_replicate] at *; omega) | (show _ * 1 ≤ _; (try simp only [List.length_map, List.length_append, List.length_take, List.length_drop, List.length_cons, List.length_nil, List.length_replicate] at *); omega) | (show _ * 8 ≤ _; (try simp only [List.length_map, List.length_append, List.length_take, List.length_drop, List.length_cons, List.length_nil, List.length_replicate] at *); omega) | (show _ * 24 ≤ _; (try simp only [List.length_map, List.length_append, List.length_take, List.length_drop, List.length_cons, List.length_nil, List.length_replicate] at *); omega) | (show _ * 32 ≤ _; (try simp only [List.length_map, List.length_append, List.length_take, List.length_drop, List.length_cons, List.length_nil, List.length_replicate] at *); omega) | (show _ * 40 ≤ _; (try simp only [List.length_map, List.length_append, List.length_take, List.length_drop, List.length_cons, List.length_nil, List.length_replicate] at *); omega) | (show _ * 48 ≤ _; (try simp only [List.length_map, List.length_append, List.length_take, List.length_drop, List.length_cons, List.length_nil, List.length_replicate] at *); omega) | (show _ * 56 ≤ _; (try simp only [List.length_map, List.length_append, List.length_take, List.length_drop, List.length_cons, List.length_nil, List.length_replicate] at *); omega) | (show _ * 80 ≤ _; (try simp only [List.length_map, List.length_append, List.length_take, List.length_drop, List.length_cons, List.length_nil, List.length_replicate] at *); omega) | (show _ * 96 ≤ _; (try simp only [List.length_map, List.length_append, List.length_take, List.length_drop, List.length_cons, List.length_nil, List.length_replicate] at *); omega) | (show _ * 192 ≤ _; (try simp only [List.length_map, List.length_append, List.length_take, List.length_drop, List.length_cons, List.length_nil, List.length_replicate] at *); omega))) : p := h
end Go.Vm
