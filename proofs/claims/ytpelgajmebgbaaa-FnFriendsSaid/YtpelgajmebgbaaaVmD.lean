/-
  New objects; what a call of a proved function gives; loads, literals, boxes, make, indexes, len.
  Conditions: the table of types fits the program ('TOk').
-/
import Derived.Test.YtpelgajmebgbaaaVmC
namespace Go.Vm
open Go.RowKit

/-! ### New ids -/
def Gh.addL (G : Gh) (n : Nat) (l : List (Value × List Nat)) : Gh where
  A := fun j => G.A j ∨ (n ≤ j ∧ j < n + l.length)
  φ := fun j => if n ≤ j ∧ j < n + l.length then (l.getD (j - n) (undef, [])).1 else G.φ j
  Φ := fun j => if n ≤ j ∧ j < n + l.length then (l.getD (j - n) (undef, [])).2 else G.Φ j
  h := fun j => if n ≤ j ∧ j < n + l.length then hd (l.getD (j - n) (undef, [])).1 else G.h j
  b := G.b
  pin := G.pin

section
variable {P : Program} {E : Nat → Option TI} {O : List (Nat × Ob)} {G : Gh} {w w' : World} {w0 : Base}

theorem Gh.addL_old {n : Nat} {l : List (Value × List Nat)} {j : Nat} (hn : ∀ j, n ≤ j → j < n + l.length → ¬ G.A j) (hj : G.A j) :
    (G.addL n l).φ j = G.φ j ∧ (G.addL n l).Φ j = G.Φ j ∧ (G.addL n l).h j = G.h j := by
  have h : ¬ (n ≤ j ∧ j < n + l.length) := fun h => hn j h.1 h.2 hj
  simp only [Gh.addL, if_neg h, and_self]
theorem Gh.addL_new {n k : Nat} {l : List (Value × List Nat)} (hk : k < l.length) : (G.addL n l).φ (n + k) = l[k].1 ∧ (G.addL n l).Φ (n + k) = l[k].2 ∧ (G.addL n l).h (n + k) = hd l[k].1 := by
  have h : n ≤ n + k ∧ n + k < n + l.length := ⟨by omega, by omega⟩
  simp only [Gh.addL, if_pos h]
  have : n + k - n = k := by omega
  rw [this]
  simp [List.getD, List.getElem?_eq_getElem hk]

theorem nodup_flat_get {l : List (List Nat)} (h : l.flatten.Nodup) : (∀ k (hk : k < l.length), l[k].Nodup) ∧
    ∀ i j (hi : i < l.length) (hj : j < l.length), i ≠ j → ∀ b ∈ l[i], b ∉ l[j] := by
  unfold List.Nodup at h
  rw [List.pairwise_flatten] at h
  refine ⟨fun k hk => h.1 _ (List.getElem_mem hk), fun i j hi hj hne b hb hb' => ?_⟩
  have h2 := List.pairwise_iff_getElem.1 h.2
  rcases Nat.lt_or_gt_of_ne hne with hlt | hgt
  · exact h2 i j hi hj hlt b hb b hb' rfl
  · exact h2 j i hj hi hgt b hb' b hb rfl

theorem Mem.newL (hM : Mem w0 O G w) (n : Nat) (l : List (Value × List Nat)) (hn : ∀ j, n ≤ j → j < n + l.length → ¬ G.A j) (hb : Below w.heap.size w w')
    (hF : (l.map (·.2)).flatten.Nodup) (hFc : ∀ p ∈ l, ∀ b ∈ p.2, w.heap.size ≤ b ∧ ∃ arr e, w'.heap[b]? = some (.cells arr e (0, 0)))
    (hh : ∀ p ∈ l, ∀ b ∈ hd p.1, b ∈ p.2)
    (hr : ∀ k o, k < l.length → get O (n + k) = some o → Pres O G w O (G.addL n l) w' → o.rep O (G.addL n l) w' (n + k)) :
    Mem w0 O (G.addL n l) w' ∧ Pres O G w O (G.addL n l) w' := by
  have hnd := nodup_flat_get hF
  have hl : (l.map (·.2)).length = l.length := by simp
  have hX : ∀ id, (n ≤ id ∧ id < n + l.length) → ∃ k, ∃ hk : k < l.length, id = n + k := fun id h => ⟨id - n, by omega, by omega⟩
  refine Mem.step hM (Lv O G) (fun id => n ≤ id ∧ id < n + l.length) (fun id h => ⟨.inl h, (Gh.addL_old hn h).1⟩) ⟨rfl, rfl⟩ (fun id h => ⟨h, rfl, (Gh.addL_old hn h.1).2⟩)
    (fun id h => ?_) hb.os hb.tape hb.output hb.size (fun b hlt _ => hb.block b hlt) (fun id hx => ?_) (fun i j hi hj hne => ?_) (fun id hx b hbb => ?_) (fun id hx b hbb => ?_) (fun id o hx _ hg p => ?_)
  · rcases h.1 with h1 | h1
    · exact .inl ⟨h1, h.2⟩
    · exact .inr h1
  · obtain ⟨k, hk, rfl⟩ := hX id hx
    rw [(Gh.addL_new hk).2.1]
    have h := hnd.1 k (by simpa using hk)
    rwa [List.getElem_map] at h
  · obtain ⟨ki, hki, rfl⟩ := hX i hi
    obtain ⟨kj, hkj, rfl⟩ := hX j hj
    rw [(Gh.addL_new hki).2.1, (Gh.addL_new hkj).2.1]
    have h := hnd.2 ki kj (by simpa using hki) (by simpa using hkj) (by omega)
    rwa [List.getElem_map, List.getElem_map] at h
  · obtain ⟨k, hk, rfl⟩ := hX id hx
    rw [(Gh.addL_new hk).2.1] at hbb
    obtain ⟨h1, h2⟩ := hFc _ (List.getElem_mem hk) b hbb
    exact ⟨.inl h1, h2⟩
  · obtain ⟨k, hk, rfl⟩ := hX id hx
    rw [(Gh.addL_new hk).2.2] at hbb
    rw [(Gh.addL_new hk).2.1]
    have h1 := hh _ (List.getElem_mem hk) b hbb
    exact ⟨h1, .inl (hFc _ (List.getElem_mem hk) b h1).1⟩
  · obtain ⟨k, hk, rfl⟩ := hX id hx
    exact hr k o hk hg p

/-- One new id. -/
def Gh.add (G : Gh) (n : Nat) (v : Value) (F : List Nat) : Gh := G.addL n [(v, F)]
theorem Gh.add_new (n : Nat) (v : Value) (F : List Nat) : (G.add n v F).φ n = v ∧ (G.add n v F).Φ n = F ∧ (G.add n v F).A n ∧ (G.add n v F).h n = hd v := by
  have := Gh.addL_new (G := G) (n := n) (k := 0) (l := [(v, F)]) (by simp)
  exact ⟨this.1, this.2.1, .inr ⟨Nat.le_refl _, by simp⟩, this.2.2⟩
theorem Gh.add_A {n : Nat} {v : Value} {F : List Nat} {j : Nat} (h : (G.add n v F).A j) : G.A j ∨ j = n := by
  rcases h with h | ⟨h1, h2⟩
  · exact .inl h
  · simp at h2; exact .inr (by omega)
theorem Mem.new1 (hM : Mem w0 O G w) (n : Nat) (v : Value) (F : List Nat) (hn : ¬ G.A n) (hb : Below w.heap.size w w')
    (hF : F.Nodup) (hFc : ∀ b ∈ F, w.heap.size ≤ b ∧ ∃ arr e, w'.heap[b]? = some (.cells arr e (0, 0))) (hh : ∀ b ∈ hd v, b ∈ F)
    (hr : ∀ o, get O n = some o → Pres O G w O (G.add n v F) w' → o.rep O (G.add n v F) w' n) :
    Mem w0 O (G.add n v F) w' ∧ Pres O G w O (G.add n v F) w' := by
  refine hM.newL n [(v, F)] (fun j h1 h2 => ?_) hb (by simpa using hF) (by simpa using hFc) (by simpa using hh) (fun k o hk hg p => ?_)
  · simp at h2
    have : j = n := by omega
    subst this; exact hn
  · simp at hk
    subst hk
    exact hr o hg p

/-! ### Lists of cells -/
theorem repCs_get : ∀ {xs : List C} {vs : List Value} {i : Nat} {x : C}, repCs O G w xs vs → xs[i]? = some x → ∃ v, vs[i]? = some v ∧ x.rep O G w v
  | [], vs, i, x, _, hi => by simp at hi
  | y :: ys, vs, i, x, ⟨v, vs', h1, h2, h3⟩, hi => by
    subst h1
    cases i with
    | zero => simp at hi; subst hi; exact ⟨v, by simp, h2⟩
    | succ i => obtain ⟨u, h4, h5⟩ := repCs_get (i := i) h3 (by simpa using hi); exact ⟨u, by simpa using h4, h5⟩
theorem repCs_length : ∀ {xs : List C} {vs : List Value}, repCs O G w xs vs → vs.length = xs.length
  | [], _, h => by simp only [repCs] at h; simp [h]
  | y :: ys, _, ⟨v, vs', h1, h2, h3⟩ => by subst h1; simp [repCs_length h3]
theorem repCs_drop : ∀ {xs : List C} {vs : List Value} (n : Nat), repCs O G w xs vs → repCs O G w (xs.drop n) (vs.drop n)
  | [], vs, n, h => by simp only [repCs] at h; subst h; simp [repCs]
  | y :: ys, _, n, h => by
    cases n with
    | zero => simpa using h
    | succ n => obtain ⟨v, vs', h1, h2, h3⟩ := h; subst h1; simpa using repCs_drop n h3
theorem repCs_take : ∀ {xs : List C} {vs : List Value} (n : Nat), repCs O G w xs vs → repCs O G w (xs.take n) (vs.take n)
  | [], vs, n, h => by simp only [repCs] at h; subst h; simp [repCs]
  | y :: ys, _, n, h => by
    cases n with
    | zero => simp [repCs]
    | succ n => obtain ⟨v, vs', h1, h2, h3⟩ := h; subst h1; simp only [List.take_succ_cons, repCs]; exact ⟨v, _, rfl, h2, repCs_take n h3⟩
theorem repCs_append : ∀ {xs ys : List C} {vs us : List Value}, repCs O G w xs vs → repCs O G w ys us → repCs O G w (xs ++ ys) (vs ++ us)
  | [], ys, vs, us, h, h' => by simp only [repCs] at h; subst h; simpa using h'
  | x :: xs, ys, _, us, ⟨v, vs', h1, h2, h3⟩, h' => by subst h1; simp only [List.cons_append, repCs]; exact ⟨v, _, rfl, h2, repCs_append h3 h'⟩
theorem repCs_t : ∀ {xs : List T} {vs : List Value} {F : List Nat}, repCells w xs vs F → Imm O G F → repCs O G w (xs.map C.t) vs
  | [], vs, F, h, _ => by simp only [repCells] at h; simp [repCs, h.1]
  | x :: xs, vs, F, h, him => by
    simp only [repCells] at h
    obtain ⟨v, cs', F1, F2, h1, rfl, h3, h4⟩ := h
    simp only [List.map_cons, repCs]
    exact ⟨v, cs', h1, ⟨F1, h3, him.sub (by simp +contextual)⟩, repCs_t h4 (him.sub (by simp +contextual))⟩
theorem repCells_drop : ∀ {xs : List T} {vs : List Value} {F : List Nat} (n : Nat), repCells w xs vs F → ∃ F', repCells w (xs.drop n) (vs.drop n) F' ∧ ∀ b ∈ F', b ∈ F
  | [], vs, F, n, h => by simp only [repCells] at h; obtain ⟨rfl, rfl⟩ := h; exact ⟨[], by simp [repCells], by simp⟩
  | y :: ys, vs, F, n, h => by
    cases n with
    | zero => exact ⟨F, by simpa using h, fun b hb => hb⟩
    | succ n =>
      simp only [repCells] at h
      obtain ⟨v, cs', F1, F2, rfl, rfl, h3, h4⟩ := h
      obtain ⟨F', h5, h6⟩ := repCells_drop n h4
      exact ⟨F', by simpa using h5, fun b hb => by simp [h6 b hb]⟩

/-- All cells plain: the same reading whatever the world. -/
theorem plain_rep {x : C} (h : x.isPlain = true) : x.rep O G w x.plain := by
  cases x with
  | nil => rfl
  | nil0 => simp [C.isPlain] at h
  | anc x => simp [C.isPlain] at h
  | t x => cases x with
    | int k n => exact ⟨[], ⟨rfl, rfl⟩, fun _ _ b hb => by simp at hb⟩
    | bool b => exact ⟨[], ⟨rfl, rfl⟩, fun _ _ b hb => by simp at hb⟩
    | str s => exact ⟨[], ⟨rfl, rfl⟩, fun _ _ b hb => by simp at hb⟩
    | lst r => simp [C.isPlain] at h
    | box c => simp [C.isPlain] at h
    | fn f c => simp [C.isPlain] at h
  | ref id => simp [C.isPlain] at h
  | fn f ids => simp [C.isPlain] at h
  | view id sz lo hi => simp [C.isPlain] at h
theorem plains_rep : ∀ {xs : List C}, xs.all C.isPlain = true → repCs O G w xs (xs.map C.plain)
  | [], _ => by simp [repCs]
  | x :: xs, h => by
    simp only [List.all_cons, Bool.and_eq_true] at h
    simp only [List.map_cons, repCs]
    exact ⟨_, _, rfl, plain_rep h.1, plains_rep h.2⟩

/-! ### Rows as data -/
theorem flat_get {css : List (List Value)} {sz : Nat} (hs : ∀ cs ∈ css, cs.length = sz) : ∀ (i : Nat) cs, css[i]? = some cs → ∀ (j : Nat) u, cs[j]? = some u → css.flatten[i * sz + j]? = some u := by
  induction css with
  | nil => intro i cs hi; simp at hi
  | cons c cs ih =>
    intro i x hi j u hu
    have hc : c.length = sz := hs c (by simp)
    cases i with
    | zero =>
      simp at hi
      subst hi
      simp only [List.flatten_cons, Nat.zero_mul, Nat.zero_add]
      rw [List.getElem?_append_left (List.getElem?_eq_some_iff.1 hu).1]
      exact hu
    | succ i =>
      simp only [List.flatten_cons]
      have h1 : c.length ≤ (i + 1) * sz + j := by rw [hc, Nat.add_mul]; omega
      rw [List.getElem?_append_right h1]
      have h2 : (i + 1) * sz + j - c.length = i * sz + j := by rw [hc, Nat.add_mul]; omega
      rw [h2]
      exact ih (fun y hy => hs y (by simp [hy])) i x (by simpa using hi) j u hu
theorem RowOwn.weak {v : Value} {n sz : Nat} {css : List (List Value)} (hs : ∀ cs ∈ css, cs.length = sz) (h : RowOwn w v n sz css.flatten) : RowWeak w v n sz css := by
  rcases h.2 with ⟨A, rfl, rfl⟩ | ⟨g, cap, cur, e, rfl, hp, hh, hnc, _⟩
  · exact ⟨A, 0, rfl, Nat.le_refl _, fun h => absurd h (by omega)⟩
  · exact ⟨some ⟨g, 0, none⟩, cap, rfl, hnc, fun _ => ⟨⟨g, 0, none⟩, rfl, ⟨cur, e, hh⟩, fun i cs hi j u hu => h.cells _ _ (flat_get hs i cs hi j u hu)⟩⟩
theorem RowWeak.rep {v : Value} {sz : Nat} {rows : List (List T)} {css : List (List Value)} {F' : List Nat} (h : RowWeak w v rows.length sz css) (hr : repRows w rows css F') (hs : ∀ cs ∈ css, cs.length = sz) :
    ∃ F, (T.lst rows).rep w v F ∧ (F = hd v ++ F' ∨ F = []) := by
  obtain ⟨A, c, rfl, hnc, h⟩ := h
  rcases Nat.eq_zero_or_pos rows.length with h0 | h0
  · have : rows = [] := List.eq_nil_of_length_eq_zero h0
    exact ⟨[], by simp only [T.rep]; exact ⟨A, c, rfl, hnc, .inl ⟨this, trivial⟩⟩, by simp⟩
  · obtain ⟨ad, rfl, ⟨arr, e, hh⟩, hc⟩ := h h0
    refine ⟨ad.block :: F', ?_, by cases c with | zero => omega | succ c => simp [hd]⟩
    simp only [T.rep]
    refine ⟨some ad, c, rfl, hnc, .inr ⟨ad, css, F', sz, by intro e; simp [e] at h0, rfl, (Array.getElem?_eq_some_iff.1 hh).1, rfl, hr, fun i cs hi => ⟨hs cs (List.mem_of_getElem? hi), hc i cs hi⟩⟩⟩

/-- An object that is a row: its cells, and that nobody else writes what lies in it. -/
theorem Mem.row (hM : Mem w0 O G w) {id : Nat} {own app : Bool} {sz : Nat} {rows : List (List T)} (ha : G.A id) (hg : get O id = some (.row own app sz rows)) :
    ∃ css F', repRows w rows css F' ∧ (∀ cs ∈ css, cs.length = sz) ∧ RowWeak w (G.φ id) rows.length sz css ∧ Imm O G F' := by
  have hob := hM.obs id _ ha hg
  obtain ⟨css, F', h1, h2, h3, h4⟩ := hob
  refine ⟨css, F', h1, h2, ?_, ?_⟩
  · cases app with
    | true => simp only [if_true] at h3; exact h3.1.weak h2
    | false => simp only [Bool.false_eq_true, if_false] at h3; exact h3.1
  · cases own with
    | true =>
      simp only [if_true] at h4
      intro j hj b hb hbj
      by_cases e : j = id
      · subst e
        have hn := hM.nodup j hj
        rw [h4] at hn
        exact (List.nodup_append.1 hn).2.2 b hbj b hb rfl
      · exact hM.disj id j ⟨ha, _, hg⟩ hj (fun h => e h.symm) b (by rw [h4]; simp [hb]) (hM.hds j hj b hbj)
    | false => simp only [Bool.false_eq_true, if_false] at h4; exact h4.2
end
end Go.Vm
