/-
  Sizes of data, and the marks that a statement writes into data: the scalar cells numbered in order.
  Conditions: the table of types fits the program ('TOk').
-/
import Derived.Test.YteecgbgdmfjogaaGreatVmV
namespace Go.Vm
open Go.RowKit

/-! ### Sizes -/
def szL {α : Type} (f : α → Nat) (xs : List α) : Nat := xs.length + (xs.map f).sum
def szS (n : Nat) (k : Int) : Int := if k - n < 0 then -1 else k - n
theorem szS_le {n : Nat} {k : Int} (h : ¬ szS n k < 0) : (n : Int) ≤ k ∧ szS n k = k - n := by
  unfold szS at h ⊢
  by_cases h2 : k - (n : Int) < 0
  · rw [if_pos h2] at h; omega
  · rw [if_neg h2]; omega
theorem szS_neg {n : Nat} {k : Int} (h : szS n k < 0) (_hk : 0 ≤ k) : k < (n : Int) := by
  unfold szS at h
  by_cases h2 : k - (n : Int) < 0
  · omega
  · rw [if_neg h2] at h; omega
theorem szS_pos {n : Nat} {k : Int} (h : (n : Int) ≤ k) : szS n k = k - n := by unfold szS; rw [if_neg (by omega)]
theorem szS_lt {n : Nat} {k : Int} (h : k < (n : Int)) : szS n k = -1 := by unfold szS; rw [if_pos (by omega)]
def pre {α : Type} (f : α → Nat) (xs : List α) (i : Nat) : Nat := ((xs.take i).map f).sum
theorem pre_zero {α : Type} (f : α → Nat) (xs : List α) : pre f xs 0 = 0 := by simp [pre]
theorem pre_succ {α : Type} (f : α → Nat) (xs : List α) {i : Nat} (h : i < xs.length) : pre f xs (i + 1) = pre f xs i + f xs[i] := by
  unfold pre; rw [List.take_succ_eq_append_getElem h, List.map_append, List.sum_append]; simp
theorem pre_all {α : Type} (f : α → Nat) (xs : List α) {i : Nat} (h : xs.length ≤ i) : pre f xs i = (xs.map f).sum := by unfold pre; rw [List.take_of_length_le h]
theorem pre_le {α : Type} (f : α → Nat) (xs : List α) : ∀ (i : Nat), pre f xs i ≤ (xs.map f).sum := by
  intro i
  unfold pre
  conv => rhs; rw [← List.take_append_drop i xs]
  rw [List.map_append, List.sum_append]
  exact Nat.le_add_right _ _
theorem szL_get {α : Type} (f : α → Nat) (xs : List α) {i : Nat} (h : i < xs.length) : f xs[i] ≤ szL f xs := by
  have h1 := pre_succ f xs h
  have h2 := pre_le f xs (i + 1)
  unfold szL
  omega
theorem szL_len {α : Type} (f : α → Nat) (xs : List α) : xs.length ≤ szL f xs := Nat.le_add_right _ _
theorem szL_mem {α : Type} (f : α → Nat) (xs : List α) {x : α} (h : x ∈ xs) : f x ≤ szL f xs := by
  obtain ⟨i, hi, rfl⟩ := List.getElem_of_mem h
  exact szL_get f xs hi

/-! ### Marks -/
mutual
def cntT : T → Nat
  | .int _ _ => 1
  | .lst rows => cntRows rows
  | _ => 0
def cntCells : List T → Nat
  | [] => 0
  | x :: xs => cntT x + cntCells xs
def cntRows : List (List T) → Nat
  | [] => 0
  | r :: rs => cntCells r + cntRows rs
end
mutual
def mkT : T → Int → T
  | .int kd _, k => .int kd (kd.wrap k)
  | .lst rows, k => .lst (mkRows rows k)
  | x, _ => x
def mkCells : List T → Int → List T
  | [], _ => []
  | x :: xs, k => mkT x k :: mkCells xs (k + cntT x)
def mkRows : List (List T) → Int → List (List T)
  | [], _ => []
  | r :: rs, k => mkCells r k :: mkRows rs (k + cntCells r)
end
theorem mkRows_length : ∀ (rows : List (List T)) (k : Int), (mkRows rows k).length = rows.length
  | [], _ => by simp [mkRows]
  | r :: rs, k => by simp [mkRows, mkRows_length rs]
theorem mkCells_length : ∀ (rows : List T) (k : Int), (mkCells rows k).length = rows.length
  | [], _ => by simp [mkCells]
  | r :: rs, k => by simp [mkCells, mkCells_length rs]
theorem cntRows_append : ∀ (a b : List (List T)), cntRows (a ++ b) = cntRows a + cntRows b
  | [], b => by simp [cntRows]
  | r :: rs, b => by simp only [List.cons_append, cntRows, cntRows_append rs b]; omega
theorem mkRows_append : ∀ (a b : List (List T)) (k : Int), mkRows (a ++ b) k = mkRows a k ++ mkRows b (k + cntRows a)
  | [], b, k => by simp [mkRows, cntRows]
  | r :: rs, b, k => by
    simp only [List.cons_append, mkRows, mkRows_append rs b, cntRows]
    congr 3
    omega
/-- The rows after 'i' of them are marked. -/
def mkAt (rows : List (List T)) (k : Int) (i : Nat) : List (List T) := mkRows (rows.take i) k ++ rows.drop i
def cntAt (rows : List (List T)) (i : Nat) : Nat := cntRows (rows.take i)
theorem mkAt_len (rows : List (List T)) (k : Int) (i : Nat) : (mkAt rows k i).length = rows.length := by
  simp only [mkAt, List.length_append, mkRows_length, List.length_take, List.length_drop]; omega
theorem mkAt_zero (rows : List (List T)) (k : Int) : mkAt rows k 0 = rows := by simp [mkAt, mkRows]
theorem mkAt_all (rows : List (List T)) (k : Int) {i : Nat} (h : rows.length ≤ i) : mkAt rows k i = mkRows rows k := by
  simp [mkAt, List.take_of_length_le h, List.drop_of_length_le h]
theorem cntAt_zero (rows : List (List T)) : cntAt rows 0 = 0 := by simp [cntAt, cntRows]
theorem cntAt_all (rows : List (List T)) {i : Nat} (h : rows.length ≤ i) : cntAt rows i = cntRows rows := by simp [cntAt, List.take_of_length_le h]
theorem cntAt_succ (rows : List (List T)) {i : Nat} (h : i < rows.length) : cntAt rows (i + 1) = cntAt rows i + cntCells rows[i] := by
  simp only [cntAt]
  rw [List.take_succ_eq_append_getElem h, cntRows_append]
  simp [cntRows]
theorem cntAt_le (rows : List (List T)) (i : Nat) : cntAt rows i ≤ cntRows rows := by
  simp only [cntAt]
  conv => rhs; rw [← List.take_append_drop i rows, cntRows_append]
  exact Nat.le_add_right _ _
theorem mkAt_get (rows : List (List T)) (k : Int) {i : Nat} (h : i < rows.length) : (mkAt rows k i)[i]? = some rows[i] := by
  have h1 : (mkRows (rows.take i) k).length = i := by rw [mkRows_length]; simp; omega
  rw [mkAt, List.getElem?_append_right (by omega), h1, Nat.sub_self, List.getElem?_drop]
  simp [h]
theorem mkAt_set (rows : List (List T)) (k : Int) {i : Nat} (h : i < rows.length) : (mkAt rows k i).set i (mkCells rows[i] (k + cntAt rows i)) = mkAt rows k (i + 1) := by
  have h1 : (mkRows (rows.take i) k).length = i := by rw [mkRows_length]; simp; omega
  simp only [mkAt]
  rw [List.take_succ_eq_append_getElem h, mkRows_append, List.set_append_right _ _ (by omega), h1, Nat.sub_self, List.drop_eq_getElem_cons h, List.set_cons_zero, List.append_assoc]
  simp [mkRows, cntAt]
theorem mkRows_get (rows : List (List T)) (k : Int) {i : Nat} (h : i < rows.length) : (mkRows rows k)[i]? = some (mkCells rows[i] (k + cntAt rows i)) := by
  have e : rows = rows.take i ++ rows[i] :: rows.drop (i + 1) := by rw [← List.drop_eq_getElem_cons h, List.take_append_drop]
  have h1 : (mkRows (rows.take i) k).length = i := by rw [mkRows_length]; simp; omega
  conv => lhs; rw [e, mkRows_append]
  rw [List.getElem?_append_right (by omega), h1, Nat.sub_self]
  simp [mkRows, cntAt]
/-- A struct's value: its slices marked. -/
def mkVal : List T → Int → List T
  | [], _ => []
  | .lst rows :: r, k => .lst (mkRows rows k) :: mkVal r (k + cntRows rows)
  | x :: r, k => x :: mkVal r k
def cntVal : List T → Nat
  | [] => 0
  | .lst rows :: r => cntRows rows + cntVal r
  | _ :: r => cntVal r

theorem map_get {α : Type} (f : α → List T) (xs : List α) {i : Nat} (h : i < (xs.map f).length) : (xs.map f)[i] = f (xs[i]'(by simpa using h)) := by simp
theorem set_get' {α : Type} {xs : List α} {i : Nat} {y : α} (h : i < xs.length) : (xs.set i y)[i]? = some y := by simp [h]
theorem mkAt_getm {α : Type} {f : α → List T} {xs : List α} {k : Int} {i : Nat} (h : i < xs.length) : (mkAt (xs.map f) k i)[i]? = some (f xs[i]) := by
  rw [mkAt_get _ _ (by rw [List.length_map]; exact h), map_get]
theorem lt_mkm {α : Type} {f : α → List T} {xs : List α} {k : Int} {i j : Nat} (h : (i : Int) < ((mkAt (xs.map f) k j).length : Int)) : i < xs.length := by rw [mkAt_len, List.length_map] at h; omega
theorem ge_mkm {α : Type} {f : α → List T} {xs : List α} {k : Int} {i j : Nat} (h : ¬ (i : Int) < ((mkAt (xs.map f) k j).length : Int)) : xs.length ≤ i := by rw [mkAt_len, List.length_map] at h; omega
theorem lt_mkr {α : Type} {f : α → List T} {xs : List α} {k : Int} {i : Nat} (h : (i : Int) < ((mkRows (xs.map f) k).length : Int)) : i < xs.length := by rw [mkRows_length, List.length_map] at h; omega
theorem ge_mkr {α : Type} {f : α → List T} {xs : List α} {k : Int} {i : Nat} (h : ¬ (i : Int) < ((mkRows (xs.map f) k).length : Int)) : xs.length ≤ i := by rw [mkRows_length, List.length_map] at h; omega
theorem mkRows_getm {α : Type} {f : α → List T} {xs : List α} {k : Int} {i : Nat} (h : i < xs.length) : (mkRows (xs.map f) k)[i]? = some (mkCells (f xs[i]) (k + cntAt (xs.map f) i)) := by
  rw [mkRows_get _ _ (by rw [List.length_map]; exact h), map_get]
theorem held_cast {P : Program} {f : FuncId} {rows : T} {a b : Int} {rs : List RV} (h : FnAt P f [.one rows, .one (I a)] rs) (e : a = b) : FnAt P f [.one rows, .one (I b)] rs := e ▸ h
theorem set_get {α : Type} {xs : List α} {i : Nat} {x y : α} (h : xs[i]? = some x) : (xs.set i y)[i]? = some y := by
  have := (List.getElem?_eq_some_iff.1 h).1
  simp [this]
theorem cnt_list {α : Type} {e : α → List T} {f : α → Nat} (h : ∀ x, cntCells (e x) ≤ 16 + 16 * f x) : ∀ xs : List α, cntRows (xs.map e) ≤ 16 * szL f xs
  | [] => by simp [cntRows]
  | x :: xs => by
    have h1 := h x
    have h2 := cnt_list h xs
    simp only [szL, List.map_cons, List.length_cons, List.sum_cons, cntRows] at h2 ⊢
    omega
theorem cnt_flat {α : Type} {e : α → List T} (h : ∀ x, cntCells (e x) ≤ 16) : ∀ xs : List α, cntRows (xs.map e) ≤ 16 * xs.length
  | [] => by simp [cntRows]
  | x :: xs => by
    have h1 := h x
    have h2 := cnt_flat h xs
    simp only [List.map_cons, List.length_cons, cntRows] at h2 ⊢
    omega
theorem bcase_szS {n : Nat} {k : Int} {x y : Prop} (h1 : szS n k < 0 → x) (h2 : (n : Int) ≤ k → szS n k = k - n → y) : bcase (decide (szS n k < 0)) x y :=
  bcase_dec h1 (fun h => h2 (szS_le h).1 (szS_le h).2)
end Go.Vm
