/-
  Soundness of the operations that read memory or make new objects: all of them.
  Conditions: the table of types fits the program ('TOk').
-/
import Derived.Test.YtpelgajmebgbaaaVmG
namespace Go.Vm
open Go.RowKit

section
variable {P : Program} {E : Nat → Option TI} {O : List (Nat × Ob)} {G : Gh} {w : World} {w0 : Base}

theorem scal_rep {x : C} {y : T} {v : Value} (h : scalT x = some y) (hr : x.rep O G w v) : y.rep w v [] := by
  unfold scalT at h
  split at h
  · injection h with h; subst h; obtain ⟨F, ⟨h1, h2⟩, _⟩ := hr; exact ⟨h1, rfl⟩
  · injection h with h; subst h; obtain ⟨F, ⟨h1, h2⟩, _⟩ := hr; exact ⟨h1, rfl⟩
  · injection h with h; subst h; obtain ⟨F, ⟨h1, h2⟩, _⟩ := hr; exact ⟨h1, rfl⟩
  · cases h
theorem scals_rep : ∀ {xs : List C} {ys : List T} {vs : List Value}, mapO scalT xs = some ys → repCs O G w xs vs → repCells w ys vs []
  | [], ys, vs, h, hr => by simp only [mapO, Option.some.injEq] at h; subst h; simp only [repCells]; exact ⟨hr, trivial⟩
  | x :: xs, ys, vs, h, ⟨v, vs', h1, h2, h3⟩ => by
    simp only [mapO] at h
    split at h
    · rename_i y ys' e1 e2
      injection h with h
      subst h h1
      simp only [repCells]
      exact ⟨v, vs', [], [], rfl, rfl, scal_rep e1 h2, scals_rep e2 h3⟩
    · cases h
theorem scalss_rep : ∀ {xs : List (List C)} {ys : List (List T)} {vs : List (List Value)}, mapO (mapO scalT) xs = some ys → repCss O G w xs vs → repRows w ys vs [] ∧ ys.length = xs.length
  | [], ys, vs, h, hr => by simp only [mapO, Option.some.injEq] at h; subst h; simp only [repRows]; exact ⟨⟨hr, trivial⟩, rfl⟩
  | x :: xs, ys, vs, h, ⟨v, vs', h1, h2, h3⟩ => by
    simp only [mapO] at h
    split at h
    · rename_i y ys' e1 e2
      injection h with h
      subst h h1
      have := scalss_rep e2 h3
      simp only [repRows]
      exact ⟨⟨v, vs', [], [], rfl, rfl, scals_rep e1 h2, this.1⟩, by simp [this.2]⟩
    · cases h

theorem zeros_rep : ∀ {xs : List C}, xs.all C.isPlain = true → repCells w (xs.map zeroT) (xs.map C.plain) []
  | [], _ => by simp [repCells]
  | x :: xs, h => by
    simp only [List.all_cons, Bool.and_eq_true] at h
    simp only [List.map_cons, repCells]
    refine ⟨_, _, [], [], rfl, rfl, ?_, zeros_rep h.2⟩
    have h1 := h.1
    cases x with
    | nil => simp only [zeroT, C.plain, T.rep]; exact ⟨none, 0, rfl, Nat.le_refl _, .inl ⟨trivial, trivial⟩⟩
    | t x => cases x <;> simp [C.isPlain] at h1 <;> exact ⟨rfl, rfl⟩
    | nil0 => simp [C.isPlain] at h1
    | anc x => simp [C.isPlain] at h1
    | ref id => simp [C.isPlain] at h1
    | fn f ids => simp [C.isPlain] at h1
    | view id sz lo hi => simp [C.isPlain] at h1
theorem repRows_replicate {r : List T} {cs : List Value} (h : repCells w r cs []) : ∀ n, repRows w (List.replicate n r) (List.replicate n cs) []
  | 0 => by simp [repRows]
  | n + 1 => by simp only [List.replicate_succ, repRows]; exact ⟨cs, _, [], [], rfl, rfl, h, repRows_replicate h n⟩

theorem made_flat (z : Array Value) : ∀ m, (madeCells z (m * z.size)).toList = (List.replicate m z.toList).flatten
  | 0 => by simp [madeCells]
  | m + 1 => by
    have ih := made_flat z m
    have e : madeCells z ((m + 1) * z.size) = madeCells z (m * z.size) ++ z := by
      apply Array.ext
      · simp [madeCells, Nat.add_mul]
      · intro k h1 h2
        simp only [madeCells, Array.getElem_map, Array.getElem_range, Array.getElem_append]
        split
        · rfl
        · rename_i hk
          simp [madeCells] at hk h1
          have hk2 : k - m * z.size < z.size := by rw [Nat.add_mul] at h1; omega
          have hm : k % z.size = k - m * z.size := by
            have : k = k - m * z.size + m * z.size := by omega
            rw [this, Nat.add_mul_mod_self_right, Nat.mod_eq_of_lt (by omega)]
            omega
          simp [hm, hk2]
    rw [e, List.replicate_succ', List.flatten_append, Array.toList_append, ih]
    simp

theorem run_indexAt {t e : Nat} {i : TypeInfo} (ht : P.underlying t = some (.slice e)) (hi : P.info? e = some i) (a : Addr) (n c : Nat) (k : IntKind) (j : Nat) (hj : j < n) (w : World) :
    (Instr.indexAt t (.slice (some a) n c) (.int k (j : Int))).run P w = .ok (.pointer (some (a.add (j * i.size)))) w := by
  simp [Instr.indexAt, asIntOf, run_underlying ht, sizeOf, typeInfo, hi, hj]

theorem repCss_length : ∀ {xs : List (List C)} {vs : List (List Value)}, repCss O G w xs vs → vs.length = xs.length
  | [], vs, h => by simp only [repCss] at h; simp [h]
  | x :: xs, _, ⟨v, vs', h1, h2, h3⟩ => by subst h1; simp [repCss_length h3]
theorem repCss_get : ∀ {rs : List (List C)} {css : List (List Value)}, repCss O G w rs css → ∀ (i : Nat) r, rs[i]? = some r → ∃ cs, css[i]? = some cs ∧ repCs O G w r cs
  | [], _, _, i, r, hi => by simp at hi
  | x :: xs, _, ⟨v, vs', h1, h2, h3⟩, i, r, hi => by
    subst h1
    cases i with
    | zero => simp at hi; subst hi; exact ⟨v, by simp, h2⟩
    | succ i =>
      obtain ⟨cs, h4, h5⟩ := repCss_get h3 i r (by simpa using hi)
      exact ⟨cs, by simpa using h4, h5⟩

theorem Mem.tmp (hM : Mem w0 O G w) {id : Nat} {sz : Nat} {rows : List (List C)} (ha : G.A id) (hg : get O id = some (.tmp sz rows)) :
    ∃ css, repCss O G w rows css ∧ (∀ cs ∈ css, cs.length = sz) ∧ RowWeak w (G.φ id) rows.length sz css := by
  obtain ⟨css, h1, h2, h3, _⟩ := hM.obs id _ ha hg
  exact ⟨css, h1, h2, h3.weak h2⟩

theorem repRows_take : ∀ {rs : List (List T)} {css : List (List Value)} {F : List Nat} (n : Nat), repRows w rs css F → ∃ F', repRows w (rs.take n) (css.take n) F' ∧ ∀ b ∈ F', b ∈ F
  | [], css, F, n, h => by simp only [repRows] at h; obtain ⟨rfl, rfl⟩ := h; exact ⟨[], by simp [repRows], by simp⟩
  | y :: ys, css, F, n, h => by
    cases n with
    | zero => exact ⟨[], by simp [repRows], by simp⟩
    | succ n =>
      simp only [repRows] at h
      obtain ⟨v, cs', F1, F2, rfl, rfl, h3, h4⟩ := h
      obtain ⟨F', h5, h6⟩ := repRows_take n h4
      refine ⟨F1 ++ F', by simp only [List.take_succ_cons, repRows]; exact ⟨v, _, F1, F', rfl, rfl, h3, h5⟩, fun b hb => ?_⟩
      rcases List.mem_append.1 hb with hb | hb
      · simp [hb]
      · simp [h6 b hb]
theorem repRows_drop : ∀ {rs : List (List T)} {css : List (List Value)} {F : List Nat} (n : Nat), repRows w rs css F → ∃ F', repRows w (rs.drop n) (css.drop n) F' ∧ ∀ b ∈ F', b ∈ F
  | [], css, F, n, h => by simp only [repRows] at h; obtain ⟨rfl, rfl⟩ := h; exact ⟨[], by simp [repRows], by simp⟩
  | y :: ys, css, F, n, h => by
    cases n with
    | zero => exact ⟨F, by simpa using h, fun b hb => hb⟩
    | succ n =>
      simp only [repRows] at h
      obtain ⟨v, cs', F1, F2, rfl, rfl, h3, h4⟩ := h
      obtain ⟨F', h5, h6⟩ := repRows_drop n h4
      exact ⟨F', by simpa using h5, fun b hb => by simp [h6 b hb]⟩

theorem run_slice {t e : Nat} {i : TypeInfo} (ht : P.underlying t = some (.slice e)) (hi : P.info? e = some i) (A : Option Addr) (n c l h : Nat) (hl : l ≤ h) (hh : h ≤ n) (hc : n ≤ c) (w : World)
    (lo hi' : Option Value) (hlo : lo = some (.int .i64 (l : Int)) ∨ (lo = none ∧ l = 0)) (hhi : hi' = some (.int .i64 (h : Int)) ∨ (hi' = none ∧ h = n)) :
    (Instr.sliceAt t (.slice A n c) lo hi' none).run P w = .ok (.slice (if c = l then A else A.map (·.add (l * i.size))) (h - l) (c - l)) w := by
  have h1 : h ≤ c := by omega
  have h2 : (l : Int) ≤ h := by omega
  have h3 : (h : Int) ≤ c := by omega
  rcases hlo with rfl | ⟨rfl, rfl⟩ <;> rcases hhi with rfl | ⟨rfl, rfl⟩ <;>
    simp [Instr.sliceAt, Instr.slice, Instr.sliceBounds, Instr.sliceBound, asIntOf, run_underlying ht, sizeOf, typeInfo, hi, h1, hl, eq_comm]
end
end Go.Vm
