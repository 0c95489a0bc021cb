/-
  Small words and rules for the contracts of functions.
  Conditions: none.
-/
import Derived.Test.YtkjheelgilffiaaVmS
namespace Go.Vm
open Go.RowKit

abbrev I (n : Int) : T := .int .i64 n
abbrev U8 (n : Int) : T := .int .u8 n
abbrev vi (n : Int) : AV := .c (.t (.int .i64 n))
abbrev vb (b : Bool) : AV := .c (.t (.bool b))
abbrev vl (rows : List (List T)) : AV := .c (.t (.lst rows))
abbrev w64 (n : Int) : Int := IntKind.i64.wrap n
/-! ### Data as cells, and what is known of data that came in -/
def eI (n : Int) : List T := [I n]
def eU (n : Int) : List T := [U8 n]
def eB (b : Bool) : List T := [.bool b]
def eS (s : ByteArray) : List T := [.str s]
def eL {α : Type} (e : α → List T) (l : List α) : List T := [.lst (l.map e)]
abbrev L {α : Type} (e : α → List T) (l : List α) : T := .lst (l.map e)
def okI (n : Int) : Prop := -9223372036854775808 ≤ n ∧ n ≤ 9223372036854775807
def okU (n : Int) : Prop := 0 ≤ n ∧ n ≤ 255
def okB (_ : Bool) : Prop := True
def okS (s : ByteArray) : Prop := s.size ≤ maxLen
def okL {α : Type} (ok : α → Prop) (l : List α) : Prop := l.length ≤ maxLen ∧ ∀ a ∈ l, ok a

theorem w64_ok {n : Int} (h1 : -9223372036854775808 ≤ n) (h2 : n < 9223372036854775808) : IntKind.i64.wrap n = n := by rw [IntKind.wrap_i64]; omega
theorem w64_nat {n : Nat} (h2 : n < 9223372036854775807) : IntKind.i64.wrap ((n : Int) + 1) = ((n + 1 : Nat) : Int) := by rw [w64_ok (by omega) (by omega)]; omega

theorem bcase_dec {p : Prop} [Decidable p] {x y : Prop} (h1 : p → x) (h2 : ¬ p → y) : bcase (decide p) x y := bcase_intro (fun h => h1 (of_decide_eq_true h)) (fun h => h2 (of_decide_eq_false h))
theorem bcase_not {b : Bool} {x y : Prop} (h : bcase b y x) : bcase (!b) x y := by
  rcases bcase_out h with ⟨rfl, hz⟩ | ⟨rfl, hz⟩
  · exact bcase_F rfl hz
  · exact bcase_T rfl hz
theorem row_get {α : Type} (f : α → List T) (xs : List α) {i : Nat} (h : i < xs.length) : (xs.map f)[i]? = some (f xs[i]) := by simp [h]
theorem foldl_take {α β : Type} (f : β → α → β) (b : β) (xs : List α) {i : Nat} (h : i < xs.length) : (xs.take (i + 1)).foldl f b = f ((xs.take i).foldl f b) xs[i] := by
  rw [List.take_succ_eq_append_getElem h, List.foldl_append]
  rfl
theorem take_all {α : Type} (xs : List α) {i : Nat} (h : xs.length ≤ i) : xs.take i = xs := List.take_of_length_le h
end Go.Vm
