/-
  The abstract state of the program logic (slots, objects that the call owns), its reading in a world under a ghost assignment, and what keeps it.
  Conditions: none.
-/
import Derived.Test.YtpelgajmebgbaaaVmA
namespace Go.Vm
open Go.RowKit

/-- A cell of a slot, of a box or of a fresh literal: nil; data that nobody writes; a row of the call's own; a function with captured boxes. -/
inductive C where
  | nil
  | nil0
  | anc (x : T)
  | t (x : T)
  | ref (id : Nat)
  | fn (f : FuncId) (ids : List Nat)
  | view (id sz lo hi : Nat)

/-- An argument. -/
inductive V where
  | one (x : T)
  | agg (xs : List T)
def V.rep (w : World) : V → Value → List Nat → Prop
  | .one x, v, F => x.rep w v F
  | .agg xs, v, F => ∃ vs, v = .agg (List.toArray vs) ∧ repCells w xs vs F

/-- A slot. 'pin': the call's own pinned argument. -/
inductive AV where
  | c (x : C)
  | agg (xs : List C)
  | tup (vs : List AV)
  | ptr (id off : Nat)
  | iptr (id sz i off : Nat)
  | sptr (cells : List T) (off : Nat)
  | junk
  | nilq (rows : List (List T))
  | pin (x : AV)

inductive Ob where
  | box (cs : List C)
  | row (own app : Bool) (sz : Nat) (rows : List (List T))
  | tmp (sz : Nat) (rows : List (List C))

def get {α : Type} : List (Nat × α) → Nat → Option α
  | [], _ => none
  | (k, v) :: r, n => bif Nat.beq k n then some v else get r n

def del {α : Type} : List (Nat × α) → Nat → List (Nat × α)
  | [], _ => []
  | (k, v) :: r, n => bif Nat.beq k n then del r n else (k, v) :: del r n

def put {α : Type} (l : List (Nat × α)) (n : Nat) (v : α) : List (Nat × α) := (n, v) :: del l n

theorem beq_ne {n m : Nat} (h : m ≠ n) : Nat.beq n m = false := by
  cases hb : Nat.beq n m with
  | false => rfl
  | true => exact absurd (Nat.eq_of_beq_eq_true hb).symm h
theorem get_del_same {α : Type} : ∀ (l : List (Nat × α)) (n : Nat), get (del l n) n = none
  | [], _ => rfl
  | (k, v) :: r, n => by
    by_cases h : Nat.beq k n = true
    · simp [del, h, get_del_same r n]
    · simp [del, h, get, get_del_same r n]
theorem get_del_other {α : Type} : ∀ (l : List (Nat × α)) (n m : Nat), m ≠ n → get (del l n) m = get l m
  | [], _, _, _ => rfl
  | (k, v) :: r, n, m, hne => by
    by_cases h : Nat.beq k n = true
    · have hk : k = n := Nat.eq_of_beq_eq_true h
      subst hk
      simp [del, get, beq_ne hne, get_del_other r k m hne]
    · simp [del, h, get, get_del_other r n m hne]
theorem get_put_same {α : Type} (l : List (Nat × α)) (n : Nat) (v : α) : get (put l n v) n = some v := by simp [put, get]
theorem get_put_other {α : Type} (l : List (Nat × α)) (n m : Nat) (v : α) (h : m ≠ n) : get (put l n v) m = get l m := by
  simp [put, get, beq_ne h, get_del_other l n m h]
theorem get_cons_same {α : Type} (l : List (Nat × α)) (n : Nat) (v : α) : get ((n, v) :: l) n = some v := by simp [get]
theorem get_cons_other {α : Type} (l : List (Nat × α)) (n m : Nat) (v : α) (h : m ≠ n) : get ((n, v) :: l) m = get l m := by
  simp [get, beq_ne h]

/-! ### The ghost: which ids are laid, each one's concrete value, the blocks that it owns -/
structure Gh where
  A : Nat → Prop
  φ : Nat → Value
  Φ : Nat → List Nat
  /-- the blocks that may be written -/
  h : Nat → List Nat
  /-- what lies below is older than the call -/
  b : Nat
  pin : Value

def Lv (O : List (Nat × Ob)) (G : Gh) (id : Nat) : Prop := G.A id ∧ ∃ o, get O id = some o
def Imm (O : List (Nat × Ob)) (G : Gh) (F : List Nat) : Prop := ∀ id, Lv O G id → ∀ b ∈ F, b ∉ G.h id

/-- A value of one cell. -/
def one (v : Value) : Prop := v.oneCell' = true ∧ v.cells = #[v]

def C.rep (O : List (Nat × Ob)) (G : Gh) (w : World) : C → Value → Prop
  | .nil, v => v = .slice none 0 0
  | .nil0, v => ∃ A, v = .slice A 0 0
  | .anc x, v => ∃ F, x.rep w v F ∧ Imm O G F ∧ ∀ b ∈ F, b < G.b
  | .t x, v => ∃ F, x.rep w v F ∧ Imm O G F
  | .ref id, v => G.A id ∧ v = G.φ id ∧ one v
  | .fn f ids, v => v = .func (.func f) #[] (ids.map G.φ).toArray ∧ ∀ id ∈ ids, G.A id
  | .view id sz lo hi, v => G.A id ∧ lo ≤ hi ∧ ∃ A c, v = .slice A (hi - lo) c ∧ hi - lo ≤ c ∧ (lo < hi → ∃ (ad : Addr) (n c' : Nat), G.φ id = .slice (some ad) n c' ∧ A = some (ad.add (lo * sz)) ∧ hi ≤ n)

def repCs (O : List (Nat × Ob)) (G : Gh) (w : World) : List C → List Value → Prop
  | [], vs => vs = []
  | x :: xs, vs => ∃ v vs', vs = v :: vs' ∧ x.rep O G w v ∧ repCs O G w xs vs'

mutual
def AV.rep (O : List (Nat × Ob)) (G : Gh) (w : World) : AV → Value → Prop
  | .c x, v => x.rep O G w v
  | .agg xs, v => ∃ vs, v = .agg (List.toArray vs) ∧ repCs O G w xs vs
  | .tup xs, v => ∃ vs, v = .tuple (List.toArray vs) ∧ repAVs O G w xs vs
  | .ptr id off, v => G.A id ∧ ∃ ad : Addr, G.φ id = .pointer (some ad) ∧ v = .pointer (some (ad.add off))
  | .iptr id sz i off, v => G.A id ∧ ∃ (ad : Addr) (n c : Nat), G.φ id = .slice (some ad) n c ∧ v = .pointer (some (ad.add (i * sz + off)))
  | .sptr cells off, v => ∃ (ad : Addr) (cs : List Value) (F : List Nat), v = .pointer (some (ad.add off)) ∧ repCells w cells cs F ∧ Imm O G (ad.block :: F) ∧ ad.block < w.heap.size ∧
      ∀ (j : Nat) u, cs[j]? = some u → w.cell? (ad.add j) = some u
  | .junk, v => v = undef
  | .nilq rows, v => ∃ b : Bool, v = .bool b ∧ (b = true → rows = [])
  | .pin x, v => x.rep O G w v ∧ v = G.pin
def repAVs (O : List (Nat × Ob)) (G : Gh) (w : World) : List AV → List Value → Prop
  | [], vs => vs = []
  | x :: xs, vs => ∃ v vs', vs = v :: vs' ∧ x.rep O G w v ∧ repAVs O G w xs vs'
end

/-- Rows of a fresh literal: as 'repRows', of C's. -/
def repCss (O : List (Nat × Ob)) (G : Gh) (w : World) : List (List C) → List (List Value) → Prop
  | [], vs => vs = []
  | x :: xs, vs => ∃ v vs', vs = v :: vs' ∧ repCs O G w x v ∧ repCss O G w xs vs'

/-- A row of which only the cells are known. -/
def RowWeak (w : World) (v : Value) (n sz : Nat) (css : List (List Value)) : Prop :=
  ∃ (A : Option Addr) (c : Nat), v = .slice A n c ∧ n ≤ c ∧ (0 < n → ∃ ad : Addr, A = some ad ∧ (∃ arr e, w.heap[ad.block]? = some (.cells arr e (0, 0))) ∧
    ∀ (i : Nat) cs, css[i]? = some cs → ∀ (j : Nat) u, cs[j]? = some u → w.cell? (ad.add (i * sz + j)) = some u)

def Ob.rep (O : List (Nat × Ob)) (G : Gh) (w : World) (id : Nat) : Ob → Prop
  | .box cs => ∃ g vs e, G.φ id = .pointer (some ⟨g, 0, none⟩) ∧ w.heap[g]? = some (.cells (List.toArray vs) e (0, 0)) ∧ repCs O G w cs vs ∧ G.Φ id = [g] ∧ G.h id = [g]
  | .row own app sz rows => ∃ css F', repRows w rows css F' ∧ (∀ cs ∈ css, cs.length = sz) ∧
      (if app then RowOwn w (G.φ id) rows.length sz css.flatten ∧ G.h id = hd (G.φ id) else RowWeak w (G.φ id) rows.length sz css ∧ (G.h id = hd (G.φ id) ∨ (rows = [] ∧ G.h id = []))) ∧
      (if own then G.Φ id = G.h id ++ F' else G.Φ id = G.h id ∧ Imm O G F')
  | .tmp sz rows => ∃ css, repCss O G w rows css ∧ (∀ cs ∈ css, cs.length = sz) ∧ RowOwn w (G.φ id) rows.length sz css.flatten ∧ G.Φ id = hd (G.φ id) ∧ G.h id = hd (G.φ id)

/-- What an older world keeps, but for some blocks. -/
structure BelowM (M : List Nat) (w w' : World) : Prop where
  os : w'.os = w.os
  tape : w'.tape = w.tape
  output : w'.output = w.output
  size : w.heap.size ≤ w'.heap.size
  block : ∀ b, b < w.heap.size → b ∉ M → w'.heap[b]? = w.heap[b]?

/-- Where a call began: its world, the older blocks that it may write, what is older than its own data, its pinned argument. -/
structure Base where
  w : World
  M : List Nat
  b : Nat
  pin : Value

structure Mem (w0 : Base) (O : List (Nat × Ob)) (G : Gh) (w : World) : Prop where
  below : BelowM w0.M w0.w w
  base : w0.b ≤ w0.w.heap.size
  fix : G.b = w0.b ∧ G.pin = w0.pin
  obs : ∀ id o, G.A id → get O id = some o → o.rep O G w id
  nodup : ∀ id, Lv O G id → (G.Φ id).Nodup
  disj : ∀ i j, Lv O G i → Lv O G j → i ≠ j → ∀ b ∈ G.Φ i, b ∉ G.Φ j
  lo : ∀ id, Lv O G id → ∀ b ∈ G.Φ id, ((w0.w.heap.size ≤ b ∨ b ∈ w0.M) ∧ w0.b ≤ b) ∧ ∃ arr e, w.heap[b]? = some (.cells arr e (0, 0))
  hds : ∀ id, Lv O G id → ∀ b ∈ G.h id, b ∈ G.Φ id

/-- What keeps every reading of a slot. -/
structure Pres (O : List (Nat × Ob)) (G : Gh) (w : World) (O' : List (Nat × Ob)) (G' : Gh) (w' : World) : Prop where
  A : ∀ id, G.A id → G'.A id ∧ G'.φ id = G.φ id
  hds : ∀ id, Lv O' G' id → ∀ b ∈ G'.h id, (∃ i, Lv O G i ∧ b ∈ G.h i) ∨ w.heap.size ≤ b
  heap : ∀ b, b < w.heap.size → (∀ i, Lv O G i → b ∉ G.h i) → w'.heap[b]? = w.heap[b]?
  size : w.heap.size ≤ w'.heap.size
  fix : G'.b = G.b ∧ G'.pin = G.pin

theorem V.rep_keep {w w' : World} : ∀ (x : V) (v : Value) (F : List Nat), x.rep w v F → (∀ b ∈ F, w'.heap[b]? = w.heap[b]?) → x.rep w' v F
  | .one x, v, F, h, hk => T.rep_keep x v F h hk
  | .agg xs, _v, F, ⟨vs, h1, h2⟩, hk => ⟨vs, h1, repCells_keep xs vs F h2 hk⟩
theorem V.rep_lt {w : World} : ∀ (x : V) (v : Value) (F : List Nat), x.rep w v F → ∀ b ∈ F, b < w.heap.size
  | .one x, v, F, h => T.rep_lt x v F h
  | .agg xs, _v, F, ⟨vs, _h1, h2⟩ => repCells_lt xs vs F h2

section
variable {O O' O'' : List (Nat × Ob)} {G G' G'' : Gh} {w w' w'' : World}

theorem Pres.refl : Pres O G w O G w := ⟨fun _ h => ⟨h, rfl⟩, fun id h _b hb => .inl ⟨id, h, hb⟩, fun _ _ _ => rfl, Nat.le_refl _, rfl, rfl⟩
theorem Pres.trans (h : Pres O G w O' G' w') (k : Pres O' G' w' O'' G'' w'') : Pres O G w O'' G'' w'' := by
  refine ⟨fun id hi => ⟨(k.A id (h.A id hi).1).1, (k.A id (h.A id hi).1).2.trans (h.A id hi).2⟩, fun id hl b hb => ?_, fun b hb hn => ?_, Nat.le_trans h.size k.size, k.fix.1.trans h.fix.1, k.fix.2.trans h.fix.2⟩
  · rcases k.hds id hl b hb with ⟨i, hi, hbi⟩ | hge
    · exact h.hds i hi b hbi
    · exact .inr (Nat.le_trans h.size hge)
  · rw [k.heap b (Nat.lt_of_lt_of_le hb h.size) (fun i hi hbi => ?_), h.heap b hb hn]
    rcases h.hds i hi b hbi with ⟨i', hi', hbi'⟩ | hge
    · exact hn i' hi' hbi'
    · omega

theorem Imm.pres {F : List Nat} (h : Imm O G F) (hlt : ∀ b ∈ F, b < w.heap.size) (p : Pres O G w O' G' w') : Imm O' G' F := by
  intro id hl b hb hbd
  rcases p.hds id hl b hbd with ⟨i, hi, hbi⟩ | hge
  · exact h i hi b hb hbi
  · have := hlt b hb
    omega
theorem Imm.keeps {F : List Nat} (h : Imm O G F) (hlt : ∀ b ∈ F, b < w.heap.size) (p : Pres O G w O' G' w') : ∀ b ∈ F, w'.heap[b]? = w.heap[b]? :=
  fun b hb => p.heap b (hlt b hb) (fun i hi => h i hi b hb)
theorem Imm.sub {F F' : List Nat} (h : Imm O G F) (hs : ∀ b ∈ F', b ∈ F) : Imm O G F' := fun id hl b hb => h id hl b (hs b hb)

theorem C.rep_pres (p : Pres O G w O' G' w') : ∀ (x : C) (v : Value), x.rep O G w v → x.rep O' G' w' v
  | .nil, _, h => h
  | .nil0, _, h => h
  | .anc x, v, ⟨F, h1, h2, h3⟩ => ⟨F, T.rep_keep x v F h1 (h2.keeps (T.rep_lt x v F h1) p), h2.pres (T.rep_lt x v F h1) p, fun b hb => by rw [p.fix.1]; exact h3 b hb⟩
  | .t x, v, ⟨F, hr, hi⟩ => ⟨F, T.rep_keep x v F hr (hi.keeps (T.rep_lt x v F hr) p), hi.pres (T.rep_lt x v F hr) p⟩
  | .ref id, v, ⟨h1, h2, h3⟩ => ⟨(p.A id h1).1, h2.trans (p.A id h1).2.symm, h3⟩
  | .fn f ids, v, ⟨h1, h2⟩ => ⟨by rw [h1, List.map_congr_left (fun id hi => (p.A id (h2 id hi)).2)], fun id hi => (p.A id (h2 id hi)).1⟩
  | .view id sz lo hi, v, ⟨h1, h2, A, c, h3, h0, h4⟩ => ⟨(p.A id h1).1, h2, A, c, h3, h0, fun hl => by
    obtain ⟨ad, n, c', h5, h6⟩ := h4 hl
    exact ⟨ad, n, c', (p.A id h1).2.trans h5, h6⟩⟩

theorem repCs_pres (p : Pres O G w O' G' w') : ∀ (x : List C) (v : List Value), repCs O G w x v → repCs O' G' w' x v
  | [], _, h => h
  | x :: xs, _, ⟨v, vs', h1, h2, h3⟩ => ⟨v, vs', h1, x.rep_pres p v h2, repCs_pres p xs vs' h3⟩
theorem repCss_pres (p : Pres O G w O' G' w') : ∀ (x : List (List C)) (v : List (List Value)), repCss O G w x v → repCss O' G' w' x v
  | [], _, h => h
  | x :: xs, _, ⟨v, vs', h1, h2, h3⟩ => ⟨v, vs', h1, repCs_pres p x v h2, repCss_pres p xs vs' h3⟩

mutual
theorem AV.rep_pres (p : Pres O G w O' G' w') : ∀ (x : AV) (v : Value), x.rep O G w v → x.rep O' G' w' v
  | .c x, v, h => by simp only [AV.rep] at h ⊢; exact x.rep_pres p v h
  | .agg xs, v, h => by simp only [AV.rep] at h ⊢; obtain ⟨vs, h1, h2⟩ := h; exact ⟨vs, h1, repCs_pres p xs vs h2⟩
  | .tup xs, v, h => by simp only [AV.rep] at h ⊢; obtain ⟨vs, h1, h2⟩ := h; exact ⟨vs, h1, repAVs_pres p xs vs h2⟩
  | .ptr id off, v, h => by
    simp only [AV.rep] at h ⊢
    obtain ⟨h1, ad, h2, h3⟩ := h
    exact ⟨(p.A id h1).1, ad, (p.A id h1).2.trans h2, h3⟩
  | .iptr id sz i off, v, h => by
    simp only [AV.rep] at h ⊢
    obtain ⟨h1, ad, n, c, h2, h3⟩ := h
    exact ⟨(p.A id h1).1, ad, n, c, (p.A id h1).2.trans h2, h3⟩
  | .sptr cells off, v, h => by
    simp only [AV.rep] at h ⊢
    obtain ⟨ad, cs, F, h1, h2, h3, h4, h5⟩ := h
    have hlt : ∀ b ∈ ad.block :: F, b < w.heap.size := by
      intro b hb
      rcases List.mem_cons.1 hb with rfl | hb
      · exact h4
      · exact repCells_lt cells cs F h2 b hb
    have hk := h3.keeps hlt p
    refine ⟨ad, cs, F, h1, repCells_keep cells cs F h2 (fun b hb => hk b (by simp [hb])), h3.pres hlt p, Nat.lt_of_lt_of_le h4 p.size, fun j u hu => ?_⟩
    rw [cell_same (w := w) (by rw [block_of_add]; exact hk _ (by simp))]
    exact h5 j u hu
  | .junk, _, h => by simpa only [AV.rep] using h
  | .nilq _, _, h => by simpa only [AV.rep] using h
  | .pin x, v, h => by
    simp only [AV.rep] at h ⊢
    exact ⟨AV.rep_pres p x v h.1, by rw [p.fix.2]; exact h.2⟩
theorem repAVs_pres (p : Pres O G w O' G' w') : ∀ (x : List AV) (v : List Value), repAVs O G w x v → repAVs O' G' w' x v
  | [], _, h => by simpa only [repAVs] using h
  | x :: xs, _, h => by
    simp only [repAVs] at h ⊢
    obtain ⟨v, vs', h1, h2, h3⟩ := h
    exact ⟨v, vs', h1, AV.rep_pres p x v h2, repAVs_pres p xs vs' h3⟩
end

theorem RowWeak.keep {v : Value} {n sz : Nat} {css : List (List Value)} (h : RowWeak w v n sz css) (hk : ∀ b ∈ hd v, w'.heap[b]? = w.heap[b]?) : RowWeak w' v n sz css := by
  obtain ⟨A, c, rfl, hnc, h⟩ := h
  refine ⟨A, c, rfl, hnc, fun hn => ?_⟩
  obtain ⟨ad, rfl, ⟨arr, e, hh⟩, hc⟩ := h hn
  cases c with
  | zero => omega
  | succ c =>
    refine ⟨ad, rfl, ⟨arr, e, by rw [hk _ (by simp [hd])]; exact hh⟩, fun i cs hi j u hu => ?_⟩
    rw [cell_same (w := w) (by rw [block_of_add]; exact hk _ (by simp [hd]))]
    exact hc i cs hi j u hu

theorem BelowM.trans' {M : List Nat} {w w' w'' : World} (h : BelowM M w w') (hos : w''.os = w'.os) (htape : w''.tape = w'.tape) (hout : w''.output = w'.output) (hsize : w'.heap.size ≤ w''.heap.size)
    (hb : ∀ b, b < w.heap.size → b ∉ M → w''.heap[b]? = w'.heap[b]?) : BelowM M w w'' :=
  ⟨hos.trans h.os, htape.trans h.tape, hout.trans h.output, Nat.le_trans h.size hsize, fun b hl hm => (hb b hl hm).trans (h.block b hl hm)⟩

/-- An object that nothing touched. -/
theorem Ob.rep_pres (p : Pres O G w O' G' w') {id : Nat} (hφ : G'.φ id = G.φ id) (hΦ : G'.Φ id = G.Φ id) (hH : G'.h id = G.h id) (hh : ∀ b ∈ G.h id, b ∈ G.Φ id)
    (hk : ∀ b ∈ G.Φ id, w'.heap[b]? = w.heap[b]?) : ∀ (o : Ob), o.rep O G w id → o.rep O' G' w' id
  | .box cs, ⟨g, vs, e, h1, h2, h3, h4, h5⟩ => ⟨g, vs, e, hφ.trans h1, by rw [hk g (by simp [h4])]; exact h2, repCs_pres p cs vs h3, hΦ.trans h4, hH.trans h5⟩
  | .row own app sz rows, ⟨css, F', h1, h2, h3, h4⟩ => by
    have hF : ∀ b ∈ F', w'.heap[b]? = w.heap[b]? := by
      cases own with
      | true => simp only [if_true] at h4; exact fun b hb => hk b (by simp [h4, hb])
      | false => simp only [Bool.false_eq_true, if_false] at h4; exact h4.2.keeps (repRows_lt rows css F' h1) p
    refine ⟨css, F', repRows_keep rows css F' h1 hF, h2, ?_, ?_⟩
    · rw [hφ, hH]
      cases app with
      | true => simp only [if_true] at h3 ⊢; exact ⟨h3.1.keep (fun b hb => hk b (hh b (by rw [h3.2]; exact hb))), h3.2⟩
      | false =>
        simp only [Bool.false_eq_true, if_false] at h3 ⊢
        refine ⟨?_, h3.2⟩
        rcases h3.2 with h5 | ⟨rfl, h5⟩
        · exact h3.1.keep (fun b hb => hk b (hh b (by rw [h5]; exact hb)))
        · obtain ⟨A, c, e1, e2, _⟩ := h3.1
          exact ⟨A, c, e1, e2, fun h => absurd h (by simp)⟩
    · rw [hH, hΦ]
      cases own with
      | true => simpa only [if_true] using h4
      | false => simp only [Bool.false_eq_true, if_false] at h4 ⊢; exact ⟨h4.1, h4.2.pres (repRows_lt rows css F' h1) p⟩
  | .tmp sz rows, ⟨css, h1, h2, h3, h4, h5⟩ => ⟨css, repCss_pres p rows css h1, h2, by rw [hφ]; exact h3.keep (fun b hb => hk b (by rw [h4]; exact hb)), by rw [hΦ, hφ]; exact h4, by rw [hH, hφ]; exact h5⟩

/-- THE STEP: objects of 'K' are as they were; those of 'X' are new or changed; the others have gone. -/
theorem Mem.step {w0 : Base} (hM : Mem w0 O G w) (K X : Nat → Prop)
    (hA : ∀ id, G.A id → G'.A id ∧ G'.φ id = G.φ id) (hfix : G'.b = G.b ∧ G'.pin = G.pin)
    (hK : ∀ id, K id → Lv O G id ∧ get O' id = get O id ∧ G'.Φ id = G.Φ id ∧ G'.h id = G.h id)
    (hKX : ∀ id, Lv O' G' id → K id ∨ X id)
    (hos : w'.os = w.os) (htape : w'.tape = w.tape) (hout : w'.output = w.output) (hsize : w.heap.size ≤ w'.heap.size)
    (hheap : ∀ b, b < w.heap.size → (∀ i, Lv O G i → ¬ K i → b ∉ G.h i) → w'.heap[b]? = w.heap[b]?)
    (hXn : ∀ id, X id → (G'.Φ id).Nodup)
    (hXd : ∀ i j, X i → X j → i ≠ j → ∀ b ∈ G'.Φ i, b ∉ G'.Φ j)
    (hXlo : ∀ id, X id → ∀ b ∈ G'.Φ id, ((w.heap.size ≤ b) ∨ ∃ i, Lv O G i ∧ ¬ K i ∧ b ∈ G.Φ i) ∧ ∃ arr e, w'.heap[b]? = some (.cells arr e (0, 0)))
    (hXh : ∀ id, X id → ∀ b ∈ G'.h id, b ∈ G'.Φ id ∧ (w.heap.size ≤ b ∨ ∃ i, Lv O G i ∧ b ∈ G.h i))
    (hXr : ∀ id o, X id → G'.A id → get O' id = some o → Pres O G w O' G' w' → o.rep O' G' w' id) :
    Mem w0 O' G' w' ∧ Pres O G w O' G' w' := by
  have hkept : ∀ id, K id → ∀ b ∈ G.Φ id, ∀ i, Lv O G i → ¬ K i → b ∉ G.h i := fun id hk b hb i hi hni hbi =>
    hM.disj id i (hK id hk).1 hi (fun e => hni (e ▸ hk)) b hb (hM.hds i hi b hbi)
  have hlt : ∀ id, Lv O G id → ∀ b ∈ G.Φ id, b < w.heap.size := fun id hl b hb => by
    obtain ⟨_, arr, e, h⟩ := hM.lo id hl b hb
    exact (Array.getElem?_eq_some_iff.1 h).1
  have p : Pres O G w O' G' w' := by
    refine ⟨hA, fun id hl b hb => ?_, fun b hb hn => hheap b hb (fun i hi _ => hn i hi), hsize, hfix⟩
    rcases hKX id hl with hk | hx
    · exact .inl ⟨id, (hK id hk).1, by rwa [(hK id hk).2.2.2] at hb⟩
    · exact (hXh id hx b hb).2.symm
  have hlow : ∀ id, X id → ∀ b ∈ G'.Φ id, (w0.w.heap.size ≤ b ∨ b ∈ w0.M) ∧ w0.b ≤ b := fun id hx b hb => by
    rcases (hXlo id hx b hb).1 with h | ⟨i, hi, _, hbi⟩
    · exact ⟨.inl (Nat.le_trans hM.below.size h), Nat.le_trans hM.base (Nat.le_trans hM.below.size h)⟩
    · exact (hM.lo i hi b hbi).1
  have hsep : ∀ i j, K i → X j → ∀ b ∈ G'.Φ i, b ∉ G'.Φ j := fun i j hk hx b hb hbj => by
    rw [(hK i hk).2.2.1] at hb
    rcases (hXlo j hx b hbj).1 with h | ⟨i', hi', hni', hbi'⟩
    · have := hlt i (hK i hk).1 b hb
      omega
    · exact hM.disj i i' (hK i hk).1 hi' (fun e => hni' (e ▸ hk)) b hb hbi'
  have hbelow : BelowM w0.M w0.w w' := by
    refine hM.below.trans' hos htape hout hsize (fun b hb hbm => hheap b (Nat.lt_of_lt_of_le hb hM.below.size) (fun i hi _ hbi => ?_))
    rcases (hM.lo i hi b (hM.hds i hi b hbi)).1.1 with h | h
    · omega
    · exact hbm h
  refine ⟨⟨hbelow, hM.base, ⟨hfix.1.trans hM.fix.1, hfix.2.trans hM.fix.2⟩, fun id o ha hg => ?_, fun id hl => ?_, fun i j hi hj hne => ?_, fun id hl b hb => ?_, fun id hl b hb => ?_⟩, p⟩
  · rcases hKX id ⟨ha, o, hg⟩ with hk | hx
    · refine Ob.rep_pres p (hA id (hK id hk).1.1).2 (hK id hk).2.2.1 (hK id hk).2.2.2 (hM.hds id (hK id hk).1) (fun b hb => hheap b (hlt id (hK id hk).1 b hb) (hkept id hk b hb)) o (hM.obs id o (hK id hk).1.1 ?_)
      rw [← (hK id hk).2.1]; exact hg
    · exact hXr id o hx ha hg p
  · rcases hKX id hl with hk | hx
    · rw [(hK id hk).2.2.1]; exact hM.nodup id (hK id hk).1
    · exact hXn id hx
  · rcases hKX i hi with hki | hxi <;> rcases hKX j hj with hkj | hxj
    · rw [(hK i hki).2.2.1, (hK j hkj).2.2.1]; exact hM.disj i j (hK i hki).1 (hK j hkj).1 hne
    · exact hsep i j hki hxj
    · exact fun b hb hb' => hsep j i hkj hxi b hb' hb
    · exact hXd i j hxi hxj hne
  · rcases hKX id hl with hk | hx
    · rw [(hK id hk).2.2.1] at hb
      obtain ⟨h1, arr, e, h2⟩ := hM.lo id (hK id hk).1 b hb
      exact ⟨h1, arr, e, by rw [hheap b (hlt id (hK id hk).1 b hb) (hkept id hk b hb)]; exact h2⟩
    · exact ⟨hlow id hx b hb, (hXlo id hx b hb).2⟩
  · rcases hKX id hl with hk | hx
    · rw [(hK id hk).2.2.2] at hb
      rw [(hK id hk).2.2.1]
      exact hM.hds id (hK id hk).1 b hb
    · exact (hXh id hx b hb).1
end
end Go.Vm
