/-
  The abstract data of the program logic and their reading in a world: what a value of a slot reads as, by which blocks. No program in sight.
  The abstract state of the program logic (slots, objects that the call owns), its reading in a world under a ghost assignment, and what keeps it.
  The operations that look at no memory: their abstract value, and that the machine's run reads as it.
  New objects; what a call of a proved function gives; loads, literals, boxes, make, indexes, len.
  The contract of a function over abstract data ('FnAt'); how its results become objects of the caller's; how a caller's values read as arguments.
  The operations that read memory or make new objects, and their soundness.
  Soundness of the operations that read memory or make new objects.
  Soundness of the operations that read memory or make new objects: all of them.
  Conditions: the table of types fits the program ('TOk').
-/
import Derived.WalkKit
namespace Go.Vm
open Go.RowKit

/-- What one machine cell reads as. -/
inductive T where
  | int (k : IntKind) (n : Int)
  | bool (b : Bool)
  | str (s : ByteArray)
  | lst (rows : List (List T))
  | box (cells : List T)
  | fn (f : FuncId) (caps : List T)
  /-- a concrete value -/
  | raw (u : Value)

mutual
def T.rep (w : World) : T → Value → List Nat → Prop
  | .int k n, v, F => v = .int k n ∧ F = []
  | .bool b, v, F => v = .bool b ∧ F = []
  | .str s, v, F => v = .string s ∧ F = []
  | .lst rows, v, F => ∃ A c, v = .slice A rows.length c ∧ rows.length ≤ c ∧
      ((rows = [] ∧ F = []) ∨ ∃ ad css F' sz, rows ≠ [] ∧ A = some ad ∧ ad.block < w.heap.size ∧ F = ad.block :: F' ∧ repRows w rows css F' ∧
        ∀ (i : Nat) cs, css[i]? = some cs → cs.length = sz ∧ ∀ (j : Nat) u, cs[j]? = some u → w.cell? (ad.add (i * sz + j)) = some u)
  | .box cells, v, F => ∃ ad cs F', v = .pointer (some ad) ∧ ad.block < w.heap.size ∧ F = ad.block :: F' ∧ repCells w cells cs F' ∧ ∀ (j : Nat) u, cs[j]? = some u → w.cell? (ad.add j) = some u
  | .fn f caps, v, F => ∃ vs, v = .func (.func f) #[] (List.toArray vs) ∧ repCells w caps vs F
  | .raw u, v, F => (v = u ∧ u.oneCell' = true ∧ u.cells = #[u]) ∧ F = []
def repRows (w : World) : List (List T) → List (List Value) → List Nat → Prop
  | [], css, F => css = [] ∧ F = []
  | r :: rs, css, F => ∃ cs css' F1 F2, css = cs :: css' ∧ F = F1 ++ F2 ∧ repCells w r cs F1 ∧ repRows w rs css' F2
def repCells (w : World) : List T → List Value → List Nat → Prop
  | [], cs, F => cs = [] ∧ F = []
  | x :: xs, cs, F => ∃ v cs' F1 F2, cs = v :: cs' ∧ F = F1 ++ F2 ∧ x.rep w v F1 ∧ repCells w xs cs' F2
end

theorem block_of_add (a : Addr) (n : Nat) : (a.add n).block = a.block := by unfold Addr.add; split <;> rfl
theorem add_of_add (a : Addr) (i j : Nat) : (a.add i).add j = a.add (i + j) := by
  unfold Addr.add
  by_cases hi : i = 0 <;> by_cases hj : j = 0 <;> simp [hi, hj, Nat.add_assoc]

theorem cell_same {w w' : World} {a : Addr} (h : w'.heap[a.block]? = w.heap[a.block]?) : w'.cell? a = w.cell? a := World.cell?_of_block h

theorem lt_keep {w w' : World} {b : Nat} (hb : b < w.heap.size) (h : w'.heap[b]? = w.heap[b]?) : b < w'.heap.size := by
  rw [Array.getElem?_eq_getElem hb] at h
  rcases Nat.lt_or_ge b w'.heap.size with hlt | hge
  · exact hlt
  · rw [Array.getElem?_eq_none hge] at h; cases h

mutual
theorem T.rep_keep {w w' : World} : ∀ (x : T) (v : Value) (F : List Nat), x.rep w v F → (∀ b ∈ F, w'.heap[b]? = w.heap[b]?) → x.rep w' v F
  | .int _ _, _, _, h, _ => by simpa only [T.rep] using h
  | .bool _, _, _, h, _ => by simpa only [T.rep] using h
  | .str _, _, _, h, _ => by simpa only [T.rep] using h
  | .lst rows, v, F, h, hk => by
    simp only [T.rep] at h ⊢
    obtain ⟨A, c, hv, hc, h⟩ := h
    refine ⟨A, c, hv, hc, ?_⟩
    rcases h with h | ⟨ad, css, F', sz, hne, hA, hlt, rfl, hr, hg⟩
    · exact .inl h
    · refine .inr ⟨ad, css, F', sz, hne, hA, lt_keep hlt (hk _ (by simp)), rfl, repRows_keep rows css F' hr (fun b hb => hk b (by simp [hb])), fun i cs hi => ⟨(hg i cs hi).1, fun j u hu => ?_⟩⟩
      rw [cell_same (w := w) (by rw [block_of_add]; exact hk _ (by simp))]
      exact (hg i cs hi).2 j u hu
  | .box cells, v, F, h, hk => by
    simp only [T.rep] at h ⊢
    obtain ⟨ad, cs, F', hv, hlt, rfl, hr, hg⟩ := h
    refine ⟨ad, cs, F', hv, lt_keep hlt (hk _ (by simp)), rfl, repCells_keep cells cs F' hr (fun b hb => hk b (by simp [hb])), fun j u hu => ?_⟩
    rw [cell_same (w := w) (by rw [block_of_add]; exact hk _ (by simp))]
    exact hg j u hu
  | .fn f caps, v, F, h, hk => by
    simp only [T.rep] at h ⊢
    obtain ⟨vs, hv, hr⟩ := h
    exact ⟨vs, hv, repCells_keep caps vs F hr hk⟩
  | .raw _, _, _, h, _ => by simpa only [T.rep] using h
theorem repRows_keep {w w' : World} : ∀ (rs : List (List T)) (css : List (List Value)) (F : List Nat), repRows w rs css F → (∀ b ∈ F, w'.heap[b]? = w.heap[b]?) → repRows w' rs css F
  | [], _, _, h, _ => by simpa only [repRows] using h
  | r :: rs, css, F, h, hk => by
    simp only [repRows] at h ⊢
    obtain ⟨cs, css', F1, F2, h1, rfl, h3, h4⟩ := h
    exact ⟨cs, css', F1, F2, h1, rfl, repCells_keep r cs F1 h3 (fun b hb => hk b (by simp [hb])), repRows_keep rs css' F2 h4 (fun b hb => hk b (by simp [hb]))⟩
theorem repCells_keep {w w' : World} : ∀ (xs : List T) (cs : List Value) (F : List Nat), repCells w xs cs F → (∀ b ∈ F, w'.heap[b]? = w.heap[b]?) → repCells w' xs cs F
  | [], _, _, h, _ => by simpa only [repCells] using h
  | x :: xs, cs, F, h, hk => by
    simp only [repCells] at h ⊢
    obtain ⟨v, cs', F1, F2, h1, rfl, h3, h4⟩ := h
    exact ⟨v, cs', F1, F2, h1, rfl, T.rep_keep x v F1 h3 (fun b hb => hk b (by simp [hb])), repCells_keep xs cs' F2 h4 (fun b hb => hk b (by simp [hb]))⟩
end

mutual
theorem T.rep_lt {w : World} : ∀ (x : T) (v : Value) (F : List Nat), x.rep w v F → ∀ b ∈ F, b < w.heap.size
  | .int _ _, _, _, h => by simp only [T.rep] at h; simp [h.2]
  | .bool _, _, _, h => by simp only [T.rep] at h; simp [h.2]
  | .str _, _, _, h => by simp only [T.rep] at h; simp [h.2]
  | .lst rows, v, F, h => by
    simp only [T.rep] at h
    obtain ⟨A, c, hv, _, ⟨_, rfl⟩ | ⟨ad, css, F', sz, hne, hA, hlt, rfl, hr, hg⟩⟩ := h
    · simp
    · intro b hb
      rcases List.mem_cons.1 hb with rfl | hb
      · exact hlt
      · exact repRows_lt rows css F' hr b hb
  | .box cells, v, F, h => by
    simp only [T.rep] at h
    obtain ⟨ad, cs, F', hv, hlt, rfl, hr, hg⟩ := h
    intro b hb
    rcases List.mem_cons.1 hb with rfl | hb
    · exact hlt
    · exact repCells_lt cells cs F' hr b hb
  | .fn f caps, v, F, h => by
    simp only [T.rep] at h
    obtain ⟨vs, hv, hr⟩ := h
    exact repCells_lt caps vs F hr
  | .raw _, _, _, h => by simp only [T.rep] at h; simp [h.2]
theorem repRows_lt {w : World} : ∀ (rs : List (List T)) (css : List (List Value)) (F : List Nat), repRows w rs css F → ∀ b ∈ F, b < w.heap.size
  | [], _, _, h => by simp only [repRows] at h; simp [h.2]
  | r :: rs, css, F, h => by
    simp only [repRows] at h
    obtain ⟨cs, css', F1, F2, h1, rfl, h3, h4⟩ := h
    intro b hb
    rcases List.mem_append.1 hb with hb | hb
    · exact repCells_lt r cs F1 h3 b hb
    · exact repRows_lt rs css' F2 h4 b hb
theorem repCells_lt {w : World} : ∀ (xs : List T) (cs : List Value) (F : List Nat), repCells w xs cs F → ∀ b ∈ F, b < w.heap.size
  | [], _, _, h => by simp only [repCells] at h; simp [h.2]
  | x :: xs, cs, F, h => by
    simp only [repCells] at h
    obtain ⟨v, cs', F1, F2, h1, rfl, h3, h4⟩ := h
    intro b hb
    rcases List.mem_append.1 hb with hb | hb
    · exact T.rep_lt x v F1 h3 b hb
    · exact repCells_lt xs cs' F2 h4 b hb
end

/-! ### Rows: their length, one element, joined -/
theorem repRows_length {w : World} : ∀ {rs : List (List T)} {css : List (List Value)} {F : List Nat}, repRows w rs css F → css.length = rs.length
  | [], _, _, h => by simp only [repRows] at h; simp [h.1]
  | r :: rs, _, _, h => by
    simp only [repRows] at h
    obtain ⟨cs, css', F1, F2, rfl, rfl, h3, h4⟩ := h
    simp [repRows_length h4]
theorem repCells_length {w : World} : ∀ {xs : List T} {cs : List Value} {F : List Nat}, repCells w xs cs F → cs.length = xs.length
  | [], _, _, h => by simp only [repCells] at h; simp [h.1]
  | r :: rs, _, _, h => by
    simp only [repCells] at h
    obtain ⟨cs, css', F1, F2, rfl, rfl, h3, h4⟩ := h
    simp [repCells_length h4]
theorem repRows_get {w : World} : ∀ {rs : List (List T)} {css : List (List Value)} {F : List Nat}, repRows w rs css F → ∀ (i : Nat) r, rs[i]? = some r →
    ∃ cs F1, css[i]? = some cs ∧ repCells w r cs F1 ∧ ∀ b ∈ F1, b ∈ F
  | [], _, _, _, i, r, hi => by simp at hi
  | r0 :: rs, _, _, h, i, r, hi => by
    simp only [repRows] at h
    obtain ⟨cs, css', F1, F2, rfl, rfl, h3, h4⟩ := h
    cases i with
    | zero => simp at hi; subst hi; exact ⟨cs, F1, by simp, h3, by intro b hb; simp [hb]⟩
    | succ i =>
      obtain ⟨cs1, F3, h5, h6, h7⟩ := repRows_get h4 i r (by simpa using hi)
      exact ⟨cs1, F3, by simpa using h5, h6, by intro b hb; simp [h7 b hb]⟩
theorem repCells_get {w : World} : ∀ {rs : List T} {css : List Value} {F : List Nat}, repCells w rs css F → ∀ (i : Nat) r, rs[i]? = some r →
    ∃ v F1, css[i]? = some v ∧ r.rep w v F1 ∧ ∀ b ∈ F1, b ∈ F
  | [], _, _, _, i, r, hi => by simp at hi
  | r0 :: rs, _, _, h, i, r, hi => by
    simp only [repCells] at h
    obtain ⟨cs, css', F1, F2, rfl, rfl, h3, h4⟩ := h
    cases i with
    | zero => simp at hi; subst hi; exact ⟨cs, F1, by simp, h3, by intro b hb; simp [hb]⟩
    | succ i =>
      obtain ⟨cs1, F3, h5, h6, h7⟩ := repCells_get h4 i r (by simpa using hi)
      exact ⟨cs1, F3, by simpa using h5, h6, by intro b hb; simp [h7 b hb]⟩
theorem repRows_append {w : World} : ∀ {rs : List (List T)} {css : List (List Value)} {F : List Nat} {rs' : List (List T)} {css' : List (List Value)} {F' : List Nat},
    repRows w rs css F → repRows w rs' css' F' → repRows w (rs ++ rs') (css ++ css') (F ++ F')
  | [], _, _, _, _, _, h, h' => by simp only [repRows] at h; simpa [h.1, h.2] using h'
  | r0 :: rs, _, _, _, _, _, h, h' => by
    simp only [repRows] at h
    obtain ⟨cs, css', F1, F2, rfl, rfl, h3, h4⟩ := h
    simp only [List.cons_append, List.append_assoc, repRows]
    exact ⟨cs, _, F1, _, rfl, rfl, h3, repRows_append h4 h'⟩
theorem repCells_append {w : World} : ∀ {rs : List T} {css : List Value} {F : List Nat} {rs' : List T} {css' : List Value} {F' : List Nat},
    repCells w rs css F → repCells w rs' css' F' → repCells w (rs ++ rs') (css ++ css') (F ++ F')
  | [], _, _, _, _, _, h, h' => by simp only [repCells] at h; simpa [h.1, h.2] using h'
  | r0 :: rs, _, _, _, _, _, h, h' => by
    simp only [repCells] at h
    obtain ⟨cs, css', F1, F2, rfl, rfl, h3, h4⟩ := h
    simp only [List.cons_append, List.append_assoc, repCells]
    exact ⟨cs, _, F1, _, rfl, rfl, h3, repCells_append h4 h'⟩

/-! ### A row that the call owns: its slice begins at its block's head -/
def RowOwn (w : World) (v : Value) (n sz : Nat) (xs : List Value) : Prop :=
  xs.length = n * sz ∧
  ((∃ A, v = .slice A 0 0 ∧ n = 0) ∨
   ∃ g o cap cur e, v = .slice (some ⟨g, o, none⟩) n cap ∧ 0 < cap ∧ w.heap[g]? = some (.cells cur e (0, 0)) ∧ n ≤ cap ∧ cap ≤ maxLen ∧ cur.size = o + cap * sz ∧ (cur.toList.drop o).take (n * sz) = xs)

def hd : Value → List Nat
  | .slice (some a) _ (_ + 1) => [a.block]
  | .pointer (some a) => [a.block]
  | _ => []

theorem RowOwn.keep {w w' : World} {v : Value} {n sz : Nat} {xs : List Value} (h : RowOwn w v n sz xs) (hk : ∀ b ∈ hd v, w'.heap[b]? = w.heap[b]?) : RowOwn w' v n sz xs := by
  refine ⟨h.1, ?_⟩
  rcases h.2 with h2 | ⟨g, o, cap, cur, e, rfl, hp, hh, r⟩
  · exact .inl h2
  · cases cap with
    | zero => omega
    | succ cap => exact .inr ⟨g, o, cap + 1, cur, e, rfl, hp, by rw [hk g (by simp [hd])]; exact hh, r⟩

theorem RowOwn.cells {w : World} {n sz c : Nat} {a : Addr} {xs : List Value} (h : RowOwn w (.slice (some a) n c) n sz xs) : ∀ (j : Nat) u, xs[j]? = some u → w.cell? (a.add j) = some u := by
  rcases h.2 with ⟨A, h2, hn⟩ | ⟨g, o, cap, cur, e, hv, hp, hh, hn, hm, hs, ht⟩
  · subst hn
    have hx : xs = [] := List.eq_nil_of_length_eq_zero (by simpa using h.1)
    subst hx
    intro j u hu
    simp at hu
  · injection hv with h1 _ _
    injection h1 with h1
    subst h1
    intro j u hu
    rw [← ht] at hu
    have hj : j < n * sz := by
      have hl := (List.getElem?_eq_some_iff.1 hu).1
      simp at hl
      omega
    rw [List.getElem?_take_of_lt hj, List.getElem?_drop] at hu
    rw [Addr.add_lit]
    simp only [World.cell?, hh]
    simpa using hu

/-- 'append' onto a row of the call's own, whatever the block's own element type. -/
theorem run_append {P : Program} (w : World) (t ty e : TypeId) (i : TypeInfo) (z : Value) (ht : P.underlying t = some (.slice e)) (hi : P.info? e = some i) (hz : i.zero = some z)
    (hzs : z.cells.size = i.size) (v : Value) (n : Nat) (xs : List Value) (hown : RowOwn w v n i.size xs)
    (A : Option Addr) (m c : Nat) (news : List Value) (hl : news.length = m * i.size) (hA : 0 < m → ∃ a, A = some a ∧ ∀ (j : Nat) u, news[j]? = some u → w.cell? (a.add j) = some u)
    (h1 : ∀ u ∈ news, u.oneCell' = true) (hb : (n + m) * i.bytes ≤ 140737488355328) (hnm : n + m ≤ 140737488355328) :
    ∃ v' w', (Builtin.append_ #[t, t] ty #[v, .slice A m c]).run P w = .ok v' w' ∧ RowOwn w' v' (n + m) i.size (xs ++ news) ∧ w.grownBy w' (hd v).head? ∧
      (hd v' = hd v ∨ (hd v' = [w.heap.size] ∧ w.heap.size < w'.heap.size)) := by
  have hsmall : n + m ≤ 9223372036854775807 := by omega
  have hml : n + m ≤ maxLen := by simp only [maxLen]; omega
  have hlen : (xs ++ news).length = (n + m) * i.size := by rw [List.length_append, hown.1, hl, Nat.add_mul]
  rcases Nat.eq_zero_or_pos m with hm | hm
  · subst hm
    have hn : news = [] := List.eq_nil_of_length_eq_zero (by simpa using hl)
    subst hn
    refine ⟨v, w, ?_, by simpa using hown, World.grownBy.refl w _, .inl rfl⟩
    rcases hown.2 with ⟨B, rfl, rfl⟩ | ⟨g, o, cap, cur, e', rfl, hp, hg, hnc, hcm, hcs, htake⟩
    · cases A <;> cases B <;> simp [Builtin.append_, run_underlying ht, sizeOf, typeInfo, hi, Builtin.lenOf, Builtin.firstCells, loadCells, loadCellsFrom, storeCells]
    · have hx : ∀ w, (Builtin.firstCells i.size 0 (.slice A 0 c)).run P w = .ok #[] w := by
        intro w
        cases A <;> simp [Builtin.firstCells, loadCells, loadCellsFrom]
      simp [Builtin.append_, run_underlying ht, sizeOf, typeInfo, hi, Builtin.lenOf, hnc, hx, storeCells]
  obtain ⟨a, rfl, hnews⟩ := hA hm
  have grown : ∀ (old : Nat), old < n + m → ∀ (row : Option Nat),
      RowOwn (w.drew.alloc (.cells (xs.toArray ++ news.toArray ++ Builtin.zeroCells z.cells (grownCap w (n + m) old e - (n + m))) e)) (.slice (some ⟨w.heap.size, 0, none⟩) (n + m) (grownCap w (n + m) old e)) (n + m) i.size (xs ++ news) ∧
      w.grownBy (w.drew.alloc (.cells (xs.toArray ++ news.toArray ++ Builtin.zeroCells z.cells (grownCap w (n + m) old e - (n + m))) e)) row := by
    intro old ho row
    have hge := grownCap_ge w (n + m) old e
    have hcm : grownCap w (n + m) old e ≤ maxLen := grownCap_le_maxLen w (n + m) old e hml
    refine ⟨⟨hlen, .inr ⟨w.heap.size, 0, _, _, e, rfl, by omega, Go.heap_alloc_new w.drew _, hge, hcm, ?_, ?_⟩⟩, ⟨rfl, rfl, rfl, by simp, fun k hk _ => by exact Below.heap_alloc w.drew _ k hk⟩⟩
    · simp only [Array.size_append, List.size_toArray, size_zeroCells, hzs, hown.1, hl, ← Nat.add_mul, Nat.zero_add]
      congr 1
      omega
    · simp only [Array.toList_append, List.append_assoc, List.drop_zero]
      rw [← List.append_assoc, ← hlen]
      exact List.take_left
  have hdnew : ∀ old, hd (.slice (some ⟨w.heap.size, 0, none⟩) (n + m) (grownCap w (n + m) old e)) = [w.heap.size] := fun old => by
    have hge := grownCap_ge w (n + m) old e
    cases hc : grownCap w (n + m) old e with
    | zero => omega
    | succ c => rfl
  rcases hown.2 with ⟨B, rfl, rfl⟩ | ⟨g, o, cap, cur, e', rfl, hp, hg, hnc, hcm, hcs, htake⟩
  · have hx : xs = [] := List.eq_nil_of_length_eq_zero (by simpa using hown.1)
    subst hx
    have hdn := hdnew 0
    have hgr := grown 0 (by omega) (hd (.slice B 0 0)).head?
    cases B with
    | none =>
      have hr := run_append_nil (P := P) w t ty e i z ht hi hz a m c news hl hnews (by omega) (by omega) (by have hb := hb; simp only [Nat.zero_add] at hb; omega)
      simp only [Nat.zero_add, List.nil_append, Array.empty_append] at hgr hdn ⊢
      exact ⟨_, _, hr, hgr.1, hgr.2, .inr ⟨hdn, by simp⟩⟩
    | some b =>
      have hr := run_append_grow (P := P) w t ty e i z ht hi hz b 0 0 [] (by simp) (by simp) a m c news hl hnews (by omega) (by omega) (growslice_fits (by omega) hb)
      exact ⟨_, _, hr, hgr.1, hgr.2, .inr ⟨hdn, by simp⟩⟩
  · by_cases hroom : n + m ≤ cap
    · have hfit : o + n * i.size + news.length ≤ cur.size := by rw [hl, hcs, Nat.add_assoc, ← Nat.add_mul]; exact Nat.add_le_add_left (Nat.mul_le_mul_right _ hroom) _
      have hf := run_firstCells_some (P := P) w i.size m a m c news hl hnews
      have hst := run_storeCells_at P g (o + n * i.size) e' news 0 cur w hg (by simpa using hfit) h1
      simp only [Nat.add_zero] at hst
      have hr : (Builtin.append_ #[t, t] ty #[.slice (some ⟨g, o, none⟩) n cap, .slice (some a) m c]).run P w =
          .ok (.slice (some ⟨g, o, none⟩) (n + m) cap) (w.setRow g (cur.toList.take (o + n * i.size) ++ news ++ cur.toList.drop (o + n * i.size + news.length)).toArray) := by
        simp [Builtin.append_, run_underlying ht, sizeOf, typeInfo, hi, Builtin.lenOf, hroom, hf, Addr.add_lit, hst]
      refine ⟨_, _, hr, ⟨hlen, .inr ⟨g, o, cap, _, e', rfl, hp, setRow_heap w g cur _ e' _ hg, hroom, hcm, ?_, ?_⟩⟩, ⟨rfl, rfl, rfl, by simp, fun k _ hk => setRow_other w g k _ (fun e => hk ?_)⟩, .inl ?_⟩
      · simp only [List.size_toArray, List.length_append, List.length_take, List.length_drop, Array.length_toList]
        omega
      · have hle : o ≤ (cur.toList.take (o + n * i.size)).length := by rw [List.length_take, Array.length_toList]; omega
        rw [List.append_assoc, List.drop_append_of_le_length hle, List.drop_take, Nat.add_sub_cancel_left, htake, ← List.append_assoc, ← hlen]
        exact List.take_left
      · cases cap with
        | zero => omega
        | succ cap => simp [hd, e]
      · cases cap with
        | zero => omega
        | succ cap => rfl
    · have holds : ∀ (j : Nat) u, xs[j]? = some u → w.cell? ((⟨g, o, none⟩ : Addr).add j) = some u := hown.cells
      have hr := run_append_grow (P := P) w t ty e i z ht hi hz ⟨g, o, none⟩ n cap xs hown.1 holds a m c news hl hnews (by omega) (by omega) (growslice_fits (by omega) hb)
      have hgr := grown cap (by omega) (hd (.slice (some ⟨g, o, none⟩) n cap)).head?
      exact ⟨_, _, hr, hgr.1, hgr.2, .inr ⟨hdnew cap, by simp⟩⟩
end Go.Vm

namespace Go.Vm
open Go.RowKit

/-- A cell of a slot, of a box or of a fresh literal: nil; data that nobody writes; a row of the call's own; a function with captured boxes. -/
inductive C where
  | nil
  | nil0
  | anc (x : T)
  | t (x : T)
  | ref (id : Nat)
  | fn (f : FuncId) (ids : List Nat)
  | view (id sz lo hi : Nat)

/-- An argument. -/
inductive V where
  | one (x : T)
  | agg (xs : List T)
def V.rep (w : World) : V → Value → List Nat → Prop
  | .one x, v, F => x.rep w v F
  | .agg xs, v, F => ∃ vs, v = .agg (List.toArray vs) ∧ repCells w xs vs F

/-- A slot. 'pin': the call's own pinned argument. -/
inductive AV where
  | c (x : C)
  | agg (xs : List C)
  | tup (vs : List AV)
  | ptr (id off : Nat)
  | iptr (id sz i off : Nat)
  | sptr (cells : List T) (off : Nat)
  | junk
  | nilq (rows : List (List T))
  | pin (x : AV)
  /-- the slots of a caller, while a function that it called is walked in place -/
  | frm (ks : List Nat) (vs : List AV)
  /-- anything: a nil pointer -/
  | any

inductive Ob where
  | box (cs : List C)
  | row (own app : Bool) (sz : Nat) (rows : List (List T))
  | tmp (sz : Nat) (rows : List (List C))
  /-- rows that are seen, of nobody's own: what has moved into another row -/
  | vw (rows : List (List T))

def get {α : Type} : List (Nat × α) → Nat → Option α
  | [], _ => none
  | (k, v) :: r, n => bif Nat.beq k n then some v else get r n

def del {α : Type} : List (Nat × α) → Nat → List (Nat × α)
  | [], _ => []
  | (k, v) :: r, n => bif Nat.beq k n then del r n else (k, v) :: del r n

def put {α : Type} (l : List (Nat × α)) (n : Nat) (v : α) : List (Nat × α) := (n, v) :: del l n

theorem beq_ne {n m : Nat} (h : m ≠ n) : Nat.beq n m = false := by
  cases hb : Nat.beq n m with
  | false => rfl
  | true => exact absurd (Nat.eq_of_beq_eq_true hb).symm h
theorem get_del_same {α : Type} : ∀ (l : List (Nat × α)) (n : Nat), get (del l n) n = none
  | [], _ => rfl
  | (k, v) :: r, n => by
    by_cases h : Nat.beq k n = true
    · simp [del, h, get_del_same r n]
    · simp [del, h, get, get_del_same r n]
theorem get_del_other {α : Type} : ∀ (l : List (Nat × α)) (n m : Nat), m ≠ n → get (del l n) m = get l m
  | [], _, _, _ => rfl
  | (k, v) :: r, n, m, hne => by
    by_cases h : Nat.beq k n = true
    · have hk : k = n := Nat.eq_of_beq_eq_true h
      subst hk
      simp [del, get, beq_ne hne, get_del_other r k m hne]
    · simp [del, h, get, get_del_other r n m hne]
theorem get_put_same {α : Type} (l : List (Nat × α)) (n : Nat) (v : α) : get (put l n v) n = some v := by simp [put, get]
theorem get_put_other {α : Type} (l : List (Nat × α)) (n m : Nat) (v : α) (h : m ≠ n) : get (put l n v) m = get l m := by
  simp [put, get, beq_ne h, get_del_other l n m h]
theorem get_cons_same {α : Type} (l : List (Nat × α)) (n : Nat) (v : α) : get ((n, v) :: l) n = some v := by simp [get]
theorem get_cons_other {α : Type} (l : List (Nat × α)) (n m : Nat) (v : α) (h : m ≠ n) : get ((n, v) :: l) m = get l m := by
  simp [get, beq_ne h]

/-! ### The ghost: which ids are laid, each one's concrete value, the blocks that it owns -/
structure Gh where
  A : Nat → Prop
  φ : Nat → Value
  Φ : Nat → List Nat
  /-- the blocks that may be written -/
  h : Nat → List Nat
  /-- what is older than the call -/
  b : Nat → Prop
  pin : Value

def Lv (O : List (Nat × Ob)) (G : Gh) (id : Nat) : Prop := G.A id ∧ ∃ o, get O id = some o
def Imm (O : List (Nat × Ob)) (G : Gh) (F : List Nat) : Prop := ∀ id, Lv O G id → ∀ b ∈ F, b ∉ G.h id

/-- A value of one cell. -/
def one (v : Value) : Prop := v.oneCell' = true ∧ v.cells = #[v]

def C.rep (O : List (Nat × Ob)) (G : Gh) (w : World) : C → Value → Prop
  | .nil, v => v = .slice none 0 0
  | .nil0, v => ∃ A, v = .slice A 0 0
  | .anc x, v => ∃ F, x.rep w v F ∧ Imm O G F ∧ ∀ b ∈ F, G.b b
  | .t x, v => ∃ F, x.rep w v F ∧ Imm O G F
  | .ref id, v => G.A id ∧ v = G.φ id ∧ one v
  | .fn f ids, v => v = .func (.func f) #[] (ids.map G.φ).toArray ∧ ∀ id ∈ ids, G.A id
  | .view id sz lo hi, v => G.A id ∧ lo ≤ hi ∧ ∃ A c, v = .slice A (hi - lo) c ∧ hi - lo ≤ c ∧ (lo < hi → ∃ (ad : Addr) (n c' : Nat), G.φ id = .slice (some ad) n c' ∧ A = some (ad.add (lo * sz)) ∧ hi ≤ n ∧ c + lo = c')

def repCs (O : List (Nat × Ob)) (G : Gh) (w : World) : List C → List Value → Prop
  | [], vs => vs = []
  | x :: xs, vs => ∃ v vs', vs = v :: vs' ∧ x.rep O G w v ∧ repCs O G w xs vs'

mutual
def AV.rep (O : List (Nat × Ob)) (G : Gh) (w : World) : AV → Value → Prop
  | .c x, v => x.rep O G w v
  | .agg xs, v => ∃ vs, v = .agg (List.toArray vs) ∧ repCs O G w xs vs
  | .tup xs, v => ∃ vs, v = .tuple (List.toArray vs) ∧ repAVs O G w xs vs
  | .ptr id off, v => G.A id ∧ ∃ ad : Addr, G.φ id = .pointer (some ad) ∧ v = .pointer (some (ad.add off))
  | .iptr id sz i off, v => G.A id ∧ ∃ (ad : Addr) (n c : Nat), G.φ id = .slice (some ad) n c ∧ v = .pointer (some (ad.add (i * sz + off)))
  | .sptr cells off, v => ∃ (ad : Addr) (cs : List Value) (F : List Nat), v = .pointer (some (ad.add off)) ∧ repCells w cells cs F ∧ Imm O G (ad.block :: F) ∧ ad.block < w.heap.size ∧
      ∀ (j : Nat) u, cs[j]? = some u → w.cell? (ad.add j) = some u
  | .junk, v => v = undef
  | .nilq rows, v => ∃ b : Bool, v = .bool b ∧ (b = true → rows = [])
  | .pin x, v => x.rep O G w v ∧ v = G.pin
  | .any, _ => True
  | .frm ks vs, _ => ∃ tv : Array Value, G.pin = .tuple tv ∧ repAVs O G w vs (ks.map fun k => tv.getD k undef) ∧ ∀ k ∈ ks, k < tv.size
def repAVs (O : List (Nat × Ob)) (G : Gh) (w : World) : List AV → List Value → Prop
  | [], vs => vs = []
  | x :: xs, vs => ∃ v vs', vs = v :: vs' ∧ x.rep O G w v ∧ repAVs O G w xs vs'
end

/-- Rows of a fresh literal: as 'repRows', of C's. -/
def repCss (O : List (Nat × Ob)) (G : Gh) (w : World) : List (List C) → List (List Value) → Prop
  | [], vs => vs = []
  | x :: xs, vs => ∃ v vs', vs = v :: vs' ∧ repCs O G w x v ∧ repCss O G w xs vs'

/-- A row of which only the cells are known. -/
def RowWeak (w : World) (v : Value) (n sz : Nat) (css : List (List Value)) : Prop :=
  ∃ (A : Option Addr) (c : Nat), v = .slice A n c ∧ n ≤ c ∧ (0 < n → ∃ ad : Addr, A = some ad ∧ (∃ arr e, w.heap[ad.block]? = some (.cells arr e (0, 0))) ∧
    ∀ (i : Nat) cs, css[i]? = some cs → ∀ (j : Nat) u, cs[j]? = some u → w.cell? (ad.add (i * sz + j)) = some u)

def Ob.rep (O : List (Nat × Ob)) (G : Gh) (w : World) (id : Nat) : Ob → Prop
  | .box cs => ∃ g vs e, G.φ id = .pointer (some ⟨g, 0, none⟩) ∧ w.heap[g]? = some (.cells (List.toArray vs) e (0, 0)) ∧ repCs O G w cs vs ∧ G.Φ id = [g] ∧ G.h id = [g]
  | .row own app sz rows => ∃ css F', repRows w rows css F' ∧ (∀ cs ∈ css, cs.length = sz) ∧
      (if app then RowOwn w (G.φ id) rows.length sz css.flatten ∧ G.h id = hd (G.φ id) else RowWeak w (G.φ id) rows.length sz css ∧ (G.h id = hd (G.φ id) ∨ (rows = [] ∧ G.h id = []))) ∧
      (if own then G.Φ id = G.h id ++ F' else G.Φ id = G.h id ∧ Imm O G F')
  | .tmp sz rows => ∃ css, repCss O G w rows css ∧ (∀ cs ∈ css, cs.length = sz) ∧ RowOwn w (G.φ id) rows.length sz css.flatten ∧ G.Φ id = hd (G.φ id) ∧ G.h id = hd (G.φ id)
  | .vw rows => (∃ F, (T.lst rows).rep w (G.φ id) F ∧ Imm O G F) ∧ G.Φ id = [] ∧ G.h id = []

/-- What an older world keeps, but for some blocks. -/
structure BelowM (M : List Nat) (w w' : World) : Prop where
  os : w'.os = w.os
  tape : w'.tape = w.tape
  output : w'.output = w.output
  size : w.heap.size ≤ w'.heap.size
  block : ∀ b, b < w.heap.size → b ∉ M → w'.heap[b]? = w.heap[b]?

/-- Where a call began: its world, the older blocks that it may write, what is older than its own data, its pinned argument. -/
structure Base where
  w : World
  M : List Nat
  b : Nat → Prop
  pin : Value

structure Mem (w0 : Base) (O : List (Nat × Ob)) (G : Gh) (w : World) : Prop where
  below : BelowM w0.M w0.w w
  base : ∀ b, w0.b b → b < w0.w.heap.size
  fix : G.b = w0.b ∧ G.pin = w0.pin
  obs : ∀ id o, G.A id → get O id = some o → o.rep O G w id
  nodup : ∀ id, Lv O G id → (G.Φ id).Nodup
  disj : ∀ i j, Lv O G i → Lv O G j → i ≠ j → ∀ b ∈ G.Φ i, b ∉ G.Φ j
  lo : ∀ id, Lv O G id → ∀ b ∈ G.Φ id, ((w0.w.heap.size ≤ b ∨ b ∈ w0.M) ∧ ¬ w0.b b) ∧ ∃ arr e, w.heap[b]? = some (.cells arr e (0, 0))
  hds : ∀ id, Lv O G id → ∀ b ∈ G.h id, b ∈ G.Φ id

/-- What keeps every reading of a slot. -/
structure Pres (O : List (Nat × Ob)) (G : Gh) (w : World) (O' : List (Nat × Ob)) (G' : Gh) (w' : World) : Prop where
  A : ∀ id, G.A id → G'.A id ∧ G'.φ id = G.φ id
  hds : ∀ id, Lv O' G' id → ∀ b ∈ G'.h id, (∃ i, Lv O G i ∧ b ∈ G.h i) ∨ w.heap.size ≤ b
  heap : ∀ b, b < w.heap.size → (∀ i, Lv O G i → b ∉ G.h i) → w'.heap[b]? = w.heap[b]?
  size : w.heap.size ≤ w'.heap.size
  fix : G'.b = G.b ∧ G'.pin = G.pin

theorem V.rep_keep {w w' : World} : ∀ (x : V) (v : Value) (F : List Nat), x.rep w v F → (∀ b ∈ F, w'.heap[b]? = w.heap[b]?) → x.rep w' v F
  | .one x, v, F, h, hk => T.rep_keep x v F h hk
  | .agg xs, _v, F, ⟨vs, h1, h2⟩, hk => ⟨vs, h1, repCells_keep xs vs F h2 hk⟩
theorem V.rep_lt {w : World} : ∀ (x : V) (v : Value) (F : List Nat), x.rep w v F → ∀ b ∈ F, b < w.heap.size
  | .one x, v, F, h => T.rep_lt x v F h
  | .agg xs, _v, F, ⟨vs, _h1, h2⟩ => repCells_lt xs vs F h2

section
variable {O O' O'' : List (Nat × Ob)} {G G' G'' : Gh} {w w' w'' : World}

theorem Pres.refl : Pres O G w O G w := ⟨fun _ h => ⟨h, rfl⟩, fun id h _b hb => .inl ⟨id, h, hb⟩, fun _ _ _ => rfl, Nat.le_refl _, rfl, rfl⟩
theorem Pres.trans (h : Pres O G w O' G' w') (k : Pres O' G' w' O'' G'' w'') : Pres O G w O'' G'' w'' := by
  refine ⟨fun id hi => ⟨(k.A id (h.A id hi).1).1, (k.A id (h.A id hi).1).2.trans (h.A id hi).2⟩, fun id hl b hb => ?_, fun b hb hn => ?_, Nat.le_trans h.size k.size, k.fix.1.trans h.fix.1, k.fix.2.trans h.fix.2⟩
  · rcases k.hds id hl b hb with ⟨i, hi, hbi⟩ | hge
    · exact h.hds i hi b hbi
    · exact .inr (Nat.le_trans h.size hge)
  · rw [k.heap b (Nat.lt_of_lt_of_le hb h.size) (fun i hi hbi => ?_), h.heap b hb hn]
    rcases h.hds i hi b hbi with ⟨i', hi', hbi'⟩ | hge
    · exact hn i' hi' hbi'
    · omega

theorem Imm.pres {F : List Nat} (h : Imm O G F) (hlt : ∀ b ∈ F, b < w.heap.size) (p : Pres O G w O' G' w') : Imm O' G' F := by
  intro id hl b hb hbd
  rcases p.hds id hl b hbd with ⟨i, hi, hbi⟩ | hge
  · exact h i hi b hb hbi
  · have := hlt b hb
    omega
theorem Imm.keeps {F : List Nat} (h : Imm O G F) (hlt : ∀ b ∈ F, b < w.heap.size) (p : Pres O G w O' G' w') : ∀ b ∈ F, w'.heap[b]? = w.heap[b]? :=
  fun b hb => p.heap b (hlt b hb) (fun i hi => h i hi b hb)
theorem Imm.sub {F F' : List Nat} (h : Imm O G F) (hs : ∀ b ∈ F', b ∈ F) : Imm O G F' := fun id hl b hb => h id hl b (hs b hb)

theorem C.rep_pres (p : Pres O G w O' G' w') : ∀ (x : C) (v : Value), x.rep O G w v → x.rep O' G' w' v
  | .nil, _, h => h
  | .nil0, _, h => h
  | .anc x, v, ⟨F, h1, h2, h3⟩ => ⟨F, T.rep_keep x v F h1 (h2.keeps (T.rep_lt x v F h1) p), h2.pres (T.rep_lt x v F h1) p, fun b hb => by rw [p.fix.1]; exact h3 b hb⟩
  | .t x, v, ⟨F, hr, hi⟩ => ⟨F, T.rep_keep x v F hr (hi.keeps (T.rep_lt x v F hr) p), hi.pres (T.rep_lt x v F hr) p⟩
  | .ref id, v, ⟨h1, h2, h3⟩ => ⟨(p.A id h1).1, h2.trans (p.A id h1).2.symm, h3⟩
  | .fn f ids, v, ⟨h1, h2⟩ => ⟨by rw [h1, List.map_congr_left (fun id hi => (p.A id (h2 id hi)).2)], fun id hi => (p.A id (h2 id hi)).1⟩
  | .view id sz lo hi, v, ⟨h1, h2, A, c, h3, h0, h4⟩ => ⟨(p.A id h1).1, h2, A, c, h3, h0, fun hl => by
    obtain ⟨ad, n, c', h5, h6⟩ := h4 hl
    exact ⟨ad, n, c', (p.A id h1).2.trans h5, h6⟩⟩

theorem repCs_pres (p : Pres O G w O' G' w') : ∀ (x : List C) (v : List Value), repCs O G w x v → repCs O' G' w' x v
  | [], _, h => h
  | x :: xs, _, ⟨v, vs', h1, h2, h3⟩ => ⟨v, vs', h1, x.rep_pres p v h2, repCs_pres p xs vs' h3⟩
theorem repCss_pres (p : Pres O G w O' G' w') : ∀ (x : List (List C)) (v : List (List Value)), repCss O G w x v → repCss O' G' w' x v
  | [], _, h => h
  | x :: xs, _, ⟨v, vs', h1, h2, h3⟩ => ⟨v, vs', h1, repCs_pres p x v h2, repCss_pres p xs vs' h3⟩

mutual
theorem AV.rep_pres (p : Pres O G w O' G' w') : ∀ (x : AV) (v : Value), x.rep O G w v → x.rep O' G' w' v
  | .c x, v, h => by simp only [AV.rep] at h ⊢; exact x.rep_pres p v h
  | .agg xs, v, h => by simp only [AV.rep] at h ⊢; obtain ⟨vs, h1, h2⟩ := h; exact ⟨vs, h1, repCs_pres p xs vs h2⟩
  | .tup xs, v, h => by simp only [AV.rep] at h ⊢; obtain ⟨vs, h1, h2⟩ := h; exact ⟨vs, h1, repAVs_pres p xs vs h2⟩
  | .ptr id off, v, h => by
    simp only [AV.rep] at h ⊢
    obtain ⟨h1, ad, h2, h3⟩ := h
    exact ⟨(p.A id h1).1, ad, (p.A id h1).2.trans h2, h3⟩
  | .iptr id sz i off, v, h => by
    simp only [AV.rep] at h ⊢
    obtain ⟨h1, ad, n, c, h2, h3⟩ := h
    exact ⟨(p.A id h1).1, ad, n, c, (p.A id h1).2.trans h2, h3⟩
  | .sptr cells off, v, h => by
    simp only [AV.rep] at h ⊢
    obtain ⟨ad, cs, F, h1, h2, h3, h4, h5⟩ := h
    have hlt : ∀ b ∈ ad.block :: F, b < w.heap.size := by
      intro b hb
      rcases List.mem_cons.1 hb with rfl | hb
      · exact h4
      · exact repCells_lt cells cs F h2 b hb
    have hk := h3.keeps hlt p
    refine ⟨ad, cs, F, h1, repCells_keep cells cs F h2 (fun b hb => hk b (by simp [hb])), h3.pres hlt p, Nat.lt_of_lt_of_le h4 p.size, fun j u hu => ?_⟩
    rw [cell_same (w := w) (by rw [block_of_add]; exact hk _ (by simp))]
    exact h5 j u hu
  | .junk, _, h => by simpa only [AV.rep] using h
  | .nilq _, _, h => by simpa only [AV.rep] using h
  | .pin x, v, h => by
    simp only [AV.rep] at h ⊢
    exact ⟨AV.rep_pres p x v h.1, by rw [p.fix.2]; exact h.2⟩
  | .any, _, h => by simp only [AV.rep]
  | .frm ks vs, v, h => by
    simp only [AV.rep] at h ⊢
    obtain ⟨tv, h1, h2, h3⟩ := h
    exact ⟨tv, p.fix.2.trans h1, repAVs_pres p vs _ h2, h3⟩
theorem repAVs_pres (p : Pres O G w O' G' w') : ∀ (x : List AV) (v : List Value), repAVs O G w x v → repAVs O' G' w' x v
  | [], _, h => by simpa only [repAVs] using h
  | x :: xs, _, h => by
    simp only [repAVs] at h ⊢
    obtain ⟨v, vs', h1, h2, h3⟩ := h
    exact ⟨v, vs', h1, AV.rep_pres p x v h2, repAVs_pres p xs vs' h3⟩
end

theorem RowWeak.keep {v : Value} {n sz : Nat} {css : List (List Value)} (h : RowWeak w v n sz css) (hk : ∀ b ∈ hd v, w'.heap[b]? = w.heap[b]?) : RowWeak w' v n sz css := by
  obtain ⟨A, c, rfl, hnc, h⟩ := h
  refine ⟨A, c, rfl, hnc, fun hn => ?_⟩
  obtain ⟨ad, rfl, ⟨arr, e, hh⟩, hc⟩ := h hn
  cases c with
  | zero => omega
  | succ c =>
    refine ⟨ad, rfl, ⟨arr, e, by rw [hk _ (by simp [hd])]; exact hh⟩, fun i cs hi j u hu => ?_⟩
    rw [cell_same (w := w) (by rw [block_of_add]; exact hk _ (by simp [hd]))]
    exact hc i cs hi j u hu

theorem BelowM.trans' {M : List Nat} {w w' w'' : World} (h : BelowM M w w') (hos : w''.os = w'.os) (htape : w''.tape = w'.tape) (hout : w''.output = w'.output) (hsize : w'.heap.size ≤ w''.heap.size)
    (hb : ∀ b, b < w.heap.size → b ∉ M → w''.heap[b]? = w'.heap[b]?) : BelowM M w w'' :=
  ⟨hos.trans h.os, htape.trans h.tape, hout.trans h.output, Nat.le_trans h.size hsize, fun b hl hm => (hb b hl hm).trans (h.block b hl hm)⟩

/-- An object that nothing touched. -/
theorem Ob.rep_pres (p : Pres O G w O' G' w') {id : Nat} (hφ : G'.φ id = G.φ id) (hΦ : G'.Φ id = G.Φ id) (hH : G'.h id = G.h id) (hh : ∀ b ∈ G.h id, b ∈ G.Φ id)
    (hk : ∀ b ∈ G.Φ id, w'.heap[b]? = w.heap[b]?) : ∀ (o : Ob), o.rep O G w id → o.rep O' G' w' id
  | .box cs, ⟨g, vs, e, h1, h2, h3, h4, h5⟩ => ⟨g, vs, e, hφ.trans h1, by rw [hk g (by simp [h4])]; exact h2, repCs_pres p cs vs h3, hΦ.trans h4, hH.trans h5⟩
  | .row own app sz rows, ⟨css, F', h1, h2, h3, h4⟩ => by
    have hF : ∀ b ∈ F', w'.heap[b]? = w.heap[b]? := by
      cases own with
      | true => simp only [if_true] at h4; exact fun b hb => hk b (by simp [h4, hb])
      | false => simp only [Bool.false_eq_true, if_false] at h4; exact h4.2.keeps (repRows_lt rows css F' h1) p
    refine ⟨css, F', repRows_keep rows css F' h1 hF, h2, ?_, ?_⟩
    · rw [hφ, hH]
      cases app with
      | true => simp only [if_true] at h3 ⊢; exact ⟨h3.1.keep (fun b hb => hk b (hh b (by rw [h3.2]; exact hb))), h3.2⟩
      | false =>
        simp only [Bool.false_eq_true, if_false] at h3 ⊢
        refine ⟨?_, h3.2⟩
        rcases h3.2 with h5 | ⟨rfl, h5⟩
        · exact h3.1.keep (fun b hb => hk b (hh b (by rw [h5]; exact hb)))
        · obtain ⟨A, c, e1, e2, _⟩ := h3.1
          exact ⟨A, c, e1, e2, fun h => absurd h (by simp)⟩
    · rw [hH, hΦ]
      cases own with
      | true => simpa only [if_true] using h4
      | false => simp only [Bool.false_eq_true, if_false] at h4 ⊢; exact ⟨h4.1, h4.2.pres (repRows_lt rows css F' h1) p⟩
  | .tmp sz rows, ⟨css, h1, h2, h3, h4, h5⟩ => ⟨css, repCss_pres p rows css h1, h2, by rw [hφ]; exact h3.keep (fun b hb => hk b (by rw [h4]; exact hb)), by rw [hΦ, hφ]; exact h4, by rw [hH, hφ]; exact h5⟩
  | .vw rows, ⟨⟨F, h1, h2⟩, h3, h4⟩ => ⟨⟨F, by rw [hφ]; exact T.rep_keep _ _ F h1 (h2.keeps (T.rep_lt _ _ F h1) p), h2.pres (T.rep_lt _ _ F h1) p⟩, hΦ.trans h3, hH.trans h4⟩

/-- THE STEP: objects of 'K' are as they were; those of 'X' are new or changed; the others have gone. -/
theorem Mem.step {w0 : Base} (hM : Mem w0 O G w) (K X : Nat → Prop)
    (hA : ∀ id, G.A id → G'.A id ∧ G'.φ id = G.φ id) (hfix : G'.b = G.b ∧ G'.pin = G.pin)
    (hK : ∀ id, K id → Lv O G id ∧ get O' id = get O id ∧ G'.Φ id = G.Φ id ∧ G'.h id = G.h id)
    (hKX : ∀ id, Lv O' G' id → K id ∨ X id)
    (hos : w'.os = w.os) (htape : w'.tape = w.tape) (hout : w'.output = w.output) (hsize : w.heap.size ≤ w'.heap.size)
    (hheap : ∀ b, b < w.heap.size → (∀ i, Lv O G i → ¬ K i → b ∉ G.h i) → w'.heap[b]? = w.heap[b]?)
    (hXn : ∀ id, X id → (G'.Φ id).Nodup)
    (hXd : ∀ i j, X i → X j → i ≠ j → ∀ b ∈ G'.Φ i, b ∉ G'.Φ j)
    (hXlo : ∀ id, X id → ∀ b ∈ G'.Φ id, ((w.heap.size ≤ b) ∨ ∃ i, Lv O G i ∧ ¬ K i ∧ b ∈ G.Φ i) ∧ ∃ arr e, w'.heap[b]? = some (.cells arr e (0, 0)))
    (hXh : ∀ id, X id → ∀ b ∈ G'.h id, b ∈ G'.Φ id ∧ (w.heap.size ≤ b ∨ ∃ i, Lv O G i ∧ b ∈ G.h i))
    (hXr : ∀ id o, X id → G'.A id → get O' id = some o → Pres O G w O' G' w' → o.rep O' G' w' id) :
    Mem w0 O' G' w' ∧ Pres O G w O' G' w' := by
  have hkept : ∀ id, K id → ∀ b ∈ G.Φ id, ∀ i, Lv O G i → ¬ K i → b ∉ G.h i := fun id hk b hb i hi hni hbi =>
    hM.disj id i (hK id hk).1 hi (fun e => hni (e ▸ hk)) b hb (hM.hds i hi b hbi)
  have hlt : ∀ id, Lv O G id → ∀ b ∈ G.Φ id, b < w.heap.size := fun id hl b hb => by
    obtain ⟨_, arr, e, h⟩ := hM.lo id hl b hb
    exact (Array.getElem?_eq_some_iff.1 h).1
  have p : Pres O G w O' G' w' := by
    refine ⟨hA, fun id hl b hb => ?_, fun b hb hn => hheap b hb (fun i hi _ => hn i hi), hsize, hfix⟩
    rcases hKX id hl with hk | hx
    · exact .inl ⟨id, (hK id hk).1, by rwa [(hK id hk).2.2.2] at hb⟩
    · exact (hXh id hx b hb).2.symm
  have hlow : ∀ id, X id → ∀ b ∈ G'.Φ id, (w0.w.heap.size ≤ b ∨ b ∈ w0.M) ∧ ¬ w0.b b := fun id hx b hb => by
    rcases (hXlo id hx b hb).1 with h | ⟨i, hi, _, hbi⟩
    · exact ⟨.inl (Nat.le_trans hM.below.size h), fun hb => Nat.lt_irrefl _ (Nat.lt_of_lt_of_le (hM.base b hb) (Nat.le_trans hM.below.size h))⟩
    · exact (hM.lo i hi b hbi).1
  have hsep : ∀ i j, K i → X j → ∀ b ∈ G'.Φ i, b ∉ G'.Φ j := fun i j hk hx b hb hbj => by
    rw [(hK i hk).2.2.1] at hb
    rcases (hXlo j hx b hbj).1 with h | ⟨i', hi', hni', hbi'⟩
    · have := hlt i (hK i hk).1 b hb
      omega
    · exact hM.disj i i' (hK i hk).1 hi' (fun e => hni' (e ▸ hk)) b hb hbi'
  have hbelow : BelowM w0.M w0.w w' := by
    refine hM.below.trans' hos htape hout hsize (fun b hb hbm => hheap b (Nat.lt_of_lt_of_le hb hM.below.size) (fun i hi _ hbi => ?_))
    rcases (hM.lo i hi b (hM.hds i hi b hbi)).1.1 with h | h
    · omega
    · exact hbm h
  refine ⟨⟨hbelow, hM.base, ⟨hfix.1.trans hM.fix.1, hfix.2.trans hM.fix.2⟩, fun id o ha hg => ?_, fun id hl => ?_, fun i j hi hj hne => ?_, fun id hl b hb => ?_, fun id hl b hb => ?_⟩, p⟩
  · rcases hKX id ⟨ha, o, hg⟩ with hk | hx
    · refine Ob.rep_pres p (hA id (hK id hk).1.1).2 (hK id hk).2.2.1 (hK id hk).2.2.2 (hM.hds id (hK id hk).1) (fun b hb => hheap b (hlt id (hK id hk).1 b hb) (hkept id hk b hb)) o (hM.obs id o (hK id hk).1.1 ?_)
      rw [← (hK id hk).2.1]; exact hg
    · exact hXr id o hx ha hg p
  · rcases hKX id hl with hk | hx
    · rw [(hK id hk).2.2.1]; exact hM.nodup id (hK id hk).1
    · exact hXn id hx
  · rcases hKX i hi with hki | hxi <;> rcases hKX j hj with hkj | hxj
    · rw [(hK i hki).2.2.1, (hK j hkj).2.2.1]; exact hM.disj i j (hK i hki).1 (hK j hkj).1 hne
    · exact hsep i j hki hxj
    · exact fun b hb hb' => hsep j i hkj hxi b hb' hb
    · exact hXd i j hxi hxj hne
  · rcases hKX id hl with hk | hx
    · rw [(hK id hk).2.2.1] at hb
      obtain ⟨h1, arr, e, h2⟩ := hM.lo id (hK id hk).1 b hb
      exact ⟨h1, arr, e, by rw [hheap b (hlt id (hK id hk).1 b hb) (hkept id hk b hb)]; exact h2⟩
    · exact ⟨hlow id hx b hb, (hXlo id hx b hb).2⟩
  · rcases hKX id hl with hk | hx
    · rw [(hK id hk).2.2.2] at hb
      rw [(hK id hk).2.2.1]
      exact hM.hds id (hK id hk).1 b hb
    · exact (hXh id hx b hb).1
end
end Go.Vm

namespace Go.Vm
open Go.RowKit

inductive TK where
  | sl (e : Nat)
  | st (offs : List (Nat × Nat))
  | int (k : IntKind)
  | bool
  | str
  | other

/-- What is known of a type: cells, bytes, is it a struct, its form, its zero value, may it be compared cell by cell (all cells integers). -/
structure TI where
  size : Nat
  bytes : Nat
  agg : Bool
  k : TK
  zero : List C
  cmp : Bool := false

def C.plain : C → Value
  | .nil => .slice none 0 0
  | .t (.int k n) => .int k n
  | .t (.bool b) => .bool b
  | .t (.str s) => .string s
  | _ => undef
def C.isPlain : C → Bool
  | .nil | .t (.int ..) | .t (.bool ..) | .t (.str ..) => true
  | _ => false

def TKok (P : Program) (d : TypeDesc) : TK → Prop
  | .sl e => d = .slice e
  | .st offs => ∃ fs : Array Field, d = .struct fs ∧ fs.toList.map (fun f => (f.offset, f.type)) = offs ∧ ∀ f ∈ fs.toList, ∃ i, P.info? f.type = some i ∧ i.size ≠ 0
  | .int k => d = .int k
  | .bool => d = .bool
  | .str => d = .string
  | .other => True

structure TIok (P : Program) (t : Nat) (ti : TI) : Prop where
  info : ∃ (i : TypeInfo) (z : Value), P.info? t = some i ∧ i.size = ti.size ∧ i.bytes = ti.bytes ∧ i.zero = some z ∧ z.cells = (ti.zero.map C.plain).toArray ∧ z.cells.size = ti.size
  desc : ∃ d, P.underlying t = some d ∧ (match d with | .struct _ | .array _ _ => true | _ => false) = ti.agg ∧ TKok P d ti.k
  plain : ti.zero.all C.isPlain = true
  eq : ti.cmp = true → P.eqGuardType P.depth t = false ∧ ∀ (xs ys : List Int) (w : World), xs.length = ti.size → ys.length = ti.size →
    (Op.equal t (.agg (xs.map (Value.int .i64)).toArray) (.agg (ys.map (Value.int .i64)).toArray)).run P w = .ok (xs == ys) w

def TOk (P : Program) (E : Nat → Option TI) : Prop := ∀ t ti, E t = some ti → TIok P t ti

def need {α : Type} (o : Option α) (k : α → Prop) : Prop := match o with | some a => k a | none => False
/-- A test that is not known at sight. -/
inductive bcase (b : Bool) (x y : Prop) : Prop where
  | t (h : b = true) (hx : x)
  | f (h : b = false) (hy : y)

theorem need_some {α : Type} {o : Option α} {k : α → Prop} (h : need o k) : ∃ a, o = some a ∧ k a := by
  cases o with
  | none => exact h.elim
  | some a => exact ⟨a, rfl, h⟩
theorem bcase_intro {b : Bool} {x y : Prop} (h1 : b = true → x) (h2 : b = false → y) : bcase b x y := by
  cases b
  · exact .f rfl (h2 rfl)
  · exact .t rfl (h1 rfl)
theorem bcase_out {b : Bool} {x y : Prop} (h : bcase b x y) : (b = true ∧ x) ∨ (b = false ∧ y) := by
  cases h with
  | t h hx => exact .inl ⟨h, hx⟩
  | f h hy => exact .inr ⟨h, hy⟩
theorem bcase_T {b : Bool} {x y : Prop} (h : b = true) (hx : x) : bcase b x y := .t h hx
theorem bcase_F {b : Bool} {x y : Prop} (h : b = false) (hy : y) : bcase b x y := .f h hy

/-- The same, where the test is known at sight. -/
def scase (b : Bool) (x y : Prop) : Prop := match b with | true => x | false => y
theorem scase_out {b : Bool} {x y : Prop} (h : scase b x y) : (b = true ∧ x) ∨ (b = false ∧ y) := by
  cases b
  · exact .inr ⟨rfl, h⟩
  · exact .inl ⟨rfl, h⟩

def constAV : Value → Option AV
  | .int k n => some (.c (.t (.int k n)))
  | .bool b => some (.c (.t (.bool b)))
  | .string s => some (.c (.t (.str s)))
  | .slice none 0 0 => some (.c .nil)
  | .pointer none => some .any
  | _ => none

/-- Data that was there before the call is marked 'anc'; an operation sees it without its mark. -/
def stripC : C → C
  | .anc x => .t x
  | x => x
def strip : AV → AV
  | .c x => .c (stripC x)
  | .agg xs => .agg (xs.map stripC)
  | .pin x => x
  | x => x
def valR (env : List (Nat × AV)) : Operand → Option AV
  | .tmp t => match get env t with | some (.pin v) => some v | some v => some v | none => none
  | .const v => constAV v
  | .func f => some (.c (.fn f []))
  | .global _ => none
def val (env : List (Nat × AV)) : Operand → Option AV
  | .tmp t => match get env t with | some v => some (strip v) | none => none
  | .const v => constAV v
  | .func f => some (.c (.fn f []))
  | .global _ => none

abbrev vint (k : IntKind) (n : Int) : AV := .c (.t (.int k n))
abbrev vbool (b : Bool) : AV := .c (.t (.bool b))

def intCell : C → Option Int
  | .t (.int .i64 n) => some n
  | _ => none
def ints : List C → Option (List Int)
  | [] => some []
  | x :: xs => match intCell x, ints xs with
    | some n, some ns => some (n :: ns)
    | _, _ => none

def binInt (op : BinOp) (k : IntKind) (a b : Int) (K : AV → Prop) : Prop :=
  match op with
  | .add => K (vint k (k.wrap (a + b)))
  | .sub => K (vint k (k.wrap (a - b)))
  | .mul => K (vint k (k.wrap (a * b)))
  | .quo => b ≠ 0 ∧ K (vint k (k.wrap (a.tdiv b)))
  | .rem => b ≠ 0 ∧ K (vint k (a.tmod b))
  | .and => K (vint k (bits .and k a b))
  | .or => K (vint k (bits .or k a b))
  | .xor => K (vint k (bits .xor k a b))
  | .andNot => K (vint k (bits .andNot k a b))
  | .eql => K (vbool (a == b))
  | .neq => K (vbool (a != b))
  | .lss => K (vbool (decide (a < b)))
  | .leq => K (vbool (decide (a ≤ b)))
  | .gtr => K (vbool (decide (b < a)))
  | .geq => K (vbool (decide (b ≤ a)))
  | _ => False

def binA (E : Nat → Option TI) (op : BinOp) (t : Nat) (x y : AV) (K : AV → Prop) : Prop :=
  match x, y with
  | .c (.t (.int k a)), .c (.t (.int k' b)) =>
    match op with
    | .shl => 0 ≤ b ∧ K (vint k (k.wrap (a * 2 ^ (min b.toNat k.bits))))
    | .shr => 0 ≤ b ∧ K (vint k (a.fdiv (2 ^ (min b.toNat k.bits))))
    | op => k = k' ∧ binInt op k a b K
  | .c (.t (.bool a)), .c (.t (.bool b)) =>
    need (E t) fun ti => match ti.k, op with
      | .bool, .eql => K (vbool (a == b))
      | .bool, .neq => K (vbool (!(a == b)))
      | _, _ => False
  | .c (.t (.str a)), .c (.t (.str b)) =>
    match op with
    | .eql => K (vbool (a.toList == b.toList))
    | .neq => K (vbool (!(a.toList == b.toList)))
    | _ => False
  | .agg xs, .agg ys =>
    need (E t) fun ti => match ti.cmp with
      | true => need (ints xs) fun as => need (ints ys) fun bs => (as.length = ti.size ∧ bs.length = ti.size) ∧
        match op with
        | .eql => K (vbool (as == bs))
        | .neq => K (vbool (!(as == bs)))
        | _ => False
      | false => False
  | .c (.t (.lst rows)), .c .nil =>
    need (E t) fun ti => match ti.k, op with
      | .sl _, .eql => K (.nilq rows)
      | _, _ => False
  | _, _ => False

def capIds : List AV → Option (List Nat)
  | [] => some []
  | .ptr id 0 :: r => match capIds r with | some l => some (id :: l) | none => none
  | _ => none
def vals (vl : Operand → Option AV) : List Operand → Option (List AV)
  | [] => some []
  | x :: xs => match vl x, vals vl xs with
    | some v, some vs => some (v :: vs)
    | _, _ => none

/-- The operations that look at no memory. -/
def opA (E : Nat → Option TI) (vl : Operand → Option AV) (op : Op) (K : AV → Prop) : Prop :=
  match op with
  | .move x => need (vl x) K
  | .assign x => need (vl x) K
  | .nilCheck x => need (vl x) fun
    | .ptr id off => K (.ptr id off)
    | .iptr id sz i off => K (.iptr id sz i off)
    | .sptr c o => K (.sptr c o)
    | .c (.fn f ids) => K (.c (.fn f ids))
    | .c (.t (.fn f ids)) => K (.c (.t (.fn f ids)))
    | .c (.t (.box cs)) => K (.c (.t (.box cs)))
    | _ => False
  | .pick c a b => need (vl c) fun
    | .c (.t (.bool cb)) => need (vl a) fun va => need (vl b) fun vb => bcase cb (K va) (K vb)
    | _ => False
  | .unOp u _ x => need (vl x) fun
    | .c (.t (.bool b)) => match u with | .not => K (vbool (!b)) | _ => False
    | .c (.t (.int k n)) => match u with | .neg => K (vint k (k.wrap (0 - n))) | _ => False
    | _ => False
  | .binOp op t x y _ => need (vl x) fun a => need (vl y) fun b => binA E op t a b K
  | .convert s d x => need (E s) fun _ => need (E d) fun ti => need (vl x) fun
    | .c (.t (.int _ n)) => match ti.k with | .int k => K (vint k (k.wrap n)) | _ => False
    | _ => False
  | .extract x i => need (vl x) fun
    | .tup vs => need (vs[i]?) K
    | _ => False
  | .fieldAddr t x f => need (E t) fun ti => match ti.k with
    | .st offs => need (offs[f]?) fun of => need (vl x) fun
      | .ptr id o => K (.ptr id (o + of.1))
      | .iptr id sz i o => K (.iptr id sz i (o + of.1))
      | .sptr cells o => K (.sptr cells (o + of.1))
      | .c (.t (.box cells)) => K (.sptr cells of.1)
      | _ => False
    | _ => False
  | .makeFunc (.func f) first captured => first = #[] ∧ need (vals vl captured.toList) fun vs => need (capIds vs) fun ids => K (.c (.fn f ids))
  | .call { callee := .builtin .min, args, argTypes := _ } => need (vals vl args.toList) fun
    | [.c (.t (.int k a)), .c (.t (.int _ b))] => K (vint k (if b < a then b else a))
    | _ => False
  | .call { callee := .builtin .max, args, argTypes := _ } => need (vals vl args.toList) fun
    | [.c (.t (.int k a)), .c (.t (.int _ b))] => K (vint k (if a < b then b else a))
    | _ => False
  | _ => False

section
variable {P : Program} {E : Nat → Option TI} {O : List (Nat × Ob)} {G : Gh} {w : World}

theorem constAV_rep {v : Value} {av : AV} (h : constAV v = some av) : av.rep O G w v := by
  unfold constAV at h
  split at h <;> (try (injection h with h; subst h))
  · exact ⟨[], ⟨rfl, rfl⟩, fun _ _ b hb => by simp at hb⟩
  · exact ⟨[], ⟨rfl, rfl⟩, fun _ _ b hb => by simp at hb⟩
  · exact ⟨[], ⟨rfl, rfl⟩, fun _ _ b hb => by simp at hb⟩
  · rfl
  · simp only [AV.rep]
  · cases h

theorem vint_rep (k : IntKind) (n : Int) : (vint k n).rep O G w (.int k n) := ⟨[], ⟨rfl, rfl⟩, fun _ _ b hb => by simp at hb⟩
theorem vbool_rep (b : Bool) : (vbool b).rep O G w (.bool b) := ⟨[], ⟨rfl, rfl⟩, fun _ _ b hb => by simp at hb⟩
theorem int_of {k : IntKind} {n : Int} {v : Value} (h : (AV.c (.t (.int k n))).rep O G w v) : v = .int k n := by
  obtain ⟨F, h, _⟩ := h
  exact h.1
theorem bool_of {b : Bool} {v : Value} (h : (AV.c (.t (.bool b))).rep O G w v) : v = .bool b := by
  obtain ⟨F, h, _⟩ := h
  exact h.1
theorem str_of {s : ByteArray} {v : Value} (h : (AV.c (.t (.str s))).rep O G w v) : v = .string s := by
  obtain ⟨F, h, _⟩ := h
  exact h.1
theorem intCell_of {x : C} {n : Int} {v : Value} (h : intCell x = some n) (hr : x.rep O G w v) : v = .int .i64 n := by
  unfold intCell at h
  split at h
  · injection h with h; subst h; exact int_of hr
  · cases h
theorem ints_of : ∀ {xs : List C} {ns : List Int} {vs : List Value}, ints xs = some ns → repCs O G w xs vs → vs = ns.map (Value.int .i64)
  | [], ns, vs, h, hr => by simp [ints] at h; subst h; simpa [repCs] using hr
  | x :: xs, ns, vs, h, ⟨v, vs', h1, h2, h3⟩ => by
    simp only [ints] at h
    split at h
    · rename_i n ns' e1 e2
      injection h with h
      subst h h1
      rw [intCell_of e1 h2, ints_of e2 h3]
      rfl
    · cases h

/-- The reading of an operation's operands. -/
def OpsRep (vl : Operand → Option AV) (op : Op) (O : List (Nat × Ob)) (G : Gh) (w : World) (a : Act) : Prop :=
  ∀ x ∈ op.operands, ∀ v, vl x = some v → v.rep O G w (a.eval x)

theorem vals_rep {a : Act} : ∀ {xs : List Operand} {avs : List AV} {vl : Operand → Option AV}, vals vl xs = some avs → (∀ x ∈ xs, ∀ v, vl x = some v → v.rep O G w (a.eval x)) →
    repAVs O G w avs (xs.map a.eval)
  | [], avs, vl, h, _ => by simp [vals] at h; subst h; simp [repAVs]
  | x :: xs, avs, vl, h, hr => by
    simp only [vals] at h
    split at h
    · rename_i v vs e1 e2
      injection h with h
      subst h
      simp only [repAVs, List.map_cons]
      exact ⟨_, _, rfl, hr x (by simp) v e1, vals_rep e2 (fun y hy => hr y (by simp [hy]))⟩
    · cases h

theorem capIds_rep : ∀ {avs : List AV} {ids : List Nat} {vs : List Value}, capIds avs = some ids → repAVs O G w avs vs → vs = ids.map G.φ ∧ ∀ id ∈ ids, G.A id
  | [], ids, vs, h, hr => by simp [capIds] at h; subst h; simpa [repAVs] using hr
  | .ptr id 0 :: r, ids, vs, h, hr => by
    simp only [capIds] at h
    split at h
    · rename_i l e
      injection h with h
      subst h
      simp only [repAVs] at hr
      obtain ⟨v, vs', h1, h2, h3⟩ := hr
      obtain ⟨h4, h5⟩ := capIds_rep e h3
      simp only [AV.rep] at h2
      obtain ⟨h6, ad, h7, h8⟩ := h2
      subst h1
      refine ⟨by rw [h4, h8, List.map_cons, h7]; rfl, fun i hi => ?_⟩
      rcases List.mem_cons.1 hi with rfl | hi
      · exact h6
      · exact h5 i hi
    · cases h
  | .ptr id (n + 1) :: r, ids, vs, h, hr => by simp [capIds] at h
  | .c _ :: r, ids, vs, h, hr => by simp [capIds] at h
  | .agg _ :: r, ids, vs, h, hr => by simp [capIds] at h
  | .tup _ :: r, ids, vs, h, hr => by simp [capIds] at h
  | .iptr .. :: r, ids, vs, h, hr => by simp [capIds] at h
  | .sptr .. :: r, ids, vs, h, hr => by simp [capIds] at h
  | .junk :: r, ids, vs, h, hr => by simp [capIds] at h
  | .nilq _ :: r, ids, vs, h, hr => by simp [capIds] at h

/-- What a run of an operation that looks at no memory gives. -/
def Gives (P : Program) (vl : Operand → Option AV) (o : Oper) (av : AV) : Prop :=
  ∀ O G w a, OpsRep vl o.op O G w a → ∃ v, (execOp a.eval o).run P w = .ok (.value v) w ∧ av.rep O G w v

theorem binInt_sound {op : BinOp} {k : IntKind} {a b : Int} {K : AV → Prop} (h : binInt op k a b K) :
    ∃ av, K av ∧ ∀ O G w t, ∃ v, (binOp op t (.int k a) (.int k b)).run P w = .ok v w ∧ av.rep O G w v := by
  unfold binInt at h
  split at h
  · exact ⟨_, h, fun O G w t => ⟨_, by simp only [binOp_add, Op.intArith, Sem.run_pure], vint_rep _ _⟩⟩
  · exact ⟨_, h, fun O G w t => ⟨_, by simp only [binOp_sub, Op.intArith, Sem.run_pure], vint_rep _ _⟩⟩
  · exact ⟨_, h, fun O G w t => ⟨_, by simp only [binOp_mul, Op.intArith, Sem.run_pure], vint_rep _ _⟩⟩
  · exact ⟨_, h.2, fun O G w t => ⟨_, by simp only [binOp_quo, Op.intDiv, if_neg h.1, Sem.run_pure], vint_rep _ _⟩⟩
  · exact ⟨_, h.2, fun O G w t => ⟨_, by simp only [binOp_rem, Op.intDiv, if_neg h.1, Sem.run_pure], vint_rep _ _⟩⟩
  · exact ⟨_, h, fun O G w t => ⟨_, by simp only [binOp_and, Op.intBits, Sem.run_pure]; rfl, vint_rep _ _⟩⟩
  · exact ⟨_, h, fun O G w t => ⟨_, by simp only [binOp_or, Op.intBits, Sem.run_pure]; rfl, vint_rep _ _⟩⟩
  · exact ⟨_, h, fun O G w t => ⟨_, by simp only [binOp_xor, Op.intBits, Sem.run_pure]; rfl, vint_rep _ _⟩⟩
  · exact ⟨_, h, fun O G w t => ⟨_, by simp only [binOp_andNot, Op.intBits, Sem.run_pure]; rfl, vint_rep _ _⟩⟩
  · exact ⟨_, h, fun O G w t => ⟨_, by simp only [binOp_eql, Sem.run_pure], vbool_rep _⟩⟩
  · exact ⟨_, h, fun O G w t => ⟨_, by simp only [binOp_neq, Sem.run_pure], vbool_rep _⟩⟩
  · exact ⟨_, h, fun O G w t => ⟨_, by simp only [binOp_lss, Sem.run_pure], vbool_rep _⟩⟩
  · exact ⟨_, h, fun O G w t => ⟨_, by simp only [binOp_leq, Sem.run_pure], vbool_rep _⟩⟩
  · exact ⟨_, h, fun O G w t => ⟨_, by simp only [binOp_gtr, Sem.run_pure], vbool_rep _⟩⟩
  · exact ⟨_, h, fun O G w t => ⟨_, by simp only [binOp_geq, Sem.run_pure], vbool_rep _⟩⟩
  · exact h.elim

theorem run_equal_bool {t : Nat} (ht : P.underlying t = some .bool) (a b : Bool) (w : World) : (Op.equal t (.bool a) (.bool b)).run P w = .ok (a == b) w := by
  have h : ∀ d, (Op.equalIn (d + 1) t (.bool a) (.bool b)).run P w = .ok (a == b) w := fun d => by simp [Op.equalIn, run_underlying ht]
  exact h 9999

theorem binA_sound (hE : TOk P E) {op : BinOp} {t : Nat} {x y : AV} {K : AV → Prop} (h : binA E op t x y K) :
    ∃ av, K av ∧ ∀ O G w (ox oy : Operand) (u v : Value), x.rep O G w u → y.rep O G w v →
      ∃ r, (do eqGuard op t ox oy u v; binOp op t u v).run P w = .ok r w ∧ av.rep O G w r := by
  unfold binA at h
  split at h
  · rename_i k a k' b
    have hg : ∀ op w ox oy, (eqGuard op t ox oy (.int k a) (.int k' b)).run P w = .ok () w := fun op w ox oy => by
      unfold eqGuard
      split <;> simp
    have fin : ∀ {K : AV → Prop}, (∃ av, K av ∧ ∀ O G w, ∃ v, (binOp op t (.int k a) (.int k' b)).run P w = .ok v w ∧ av.rep O G w v) →
        ∃ av, K av ∧ ∀ O G w (ox oy : Operand) (u v : Value), (AV.c (.t (.int k a))).rep O G w u → (AV.c (.t (.int k' b))).rep O G w v →
          ∃ r, (do eqGuard op t ox oy u v; binOp op t u v).run P w = .ok r w ∧ av.rep O G w r := by
      rintro K ⟨av, hK, hr⟩
      refine ⟨av, hK, fun O G w ox oy u v hu hv => ?_⟩
      rw [int_of hu, int_of hv]
      obtain ⟨r, h1, h2⟩ := hr O G w
      exact ⟨r, by rw [Sem.run_bind, hg]; exact h1, h2⟩
    split at h
    · refine fin ⟨_, h.2, fun O G w => ⟨_, ?_, vint_rep _ _⟩⟩
      simp only [binOp_shl, Op.shift, if_neg (Int.not_lt.2 h.1), Sem.run_pure]
    · refine fin ⟨_, h.2, fun O G w => ⟨_, ?_, vint_rep _ _⟩⟩
      simp only [binOp_shr, Op.shift, if_neg (Int.not_lt.2 h.1), Sem.run_pure]
    · obtain ⟨rfl, h⟩ := h
      obtain ⟨av, hK, hr⟩ := binInt_sound (P := P) h
      exact fin ⟨av, hK, fun O G w => hr O G w t⟩
  · rename_i a b
    obtain ⟨ti, e, h⟩ := need_some h
    obtain ⟨d, hd, _, hk⟩ := (hE t ti e).desc
    generalize hk' : ti.k = k0 at h
    rw [hk'] at hk
    clear hk'
    split at h
    · simp only [TKok] at hk
      subst hk
      refine ⟨_, h, fun O G w ox oy u v hu hv => ?_⟩
      rw [bool_of hu, bool_of hv]
      refine ⟨_, ?_, vbool_rep _⟩
      simp [eqGuard, binOp, run_equal_bool hd]
    · simp only [TKok] at hk
      subst hk
      refine ⟨_, h, fun O G w ox oy u v hu hv => ?_⟩
      rw [bool_of hu, bool_of hv]
      refine ⟨_, ?_, vbool_rep _⟩
      simp [eqGuard, binOp, run_equal_bool hd]
    · exact h.elim
  · rename_i a b
    split at h
    · refine ⟨_, h, fun O G w ox oy u v hu hv => ?_⟩
      rw [str_of hu, str_of hv]
      refine ⟨_, ?_, vbool_rep _⟩
      simp [eqGuard, binOp_string_eql]
    · refine ⟨_, h, fun O G w ox oy u v hu hv => ?_⟩
      rw [str_of hu, str_of hv]
      refine ⟨_, ?_, vbool_rep _⟩
      simp [eqGuard, binOp_string_neq]
    · exact h.elim
  · rename_i xs ys
    obtain ⟨ti, e, h⟩ := need_some h
    split at h
    · rename_i hc
      obtain ⟨as, ea, h⟩ := need_some h
      obtain ⟨bs, eb, h⟩ := need_some h
      obtain ⟨⟨la, lb⟩, h⟩ := h
      obtain ⟨hg, he⟩ := (hE t ti e).eq hc
      have hgd : ∀ op w ox oy xs ys, (eqGuard op t ox oy (.agg xs) (.agg ys)).run P w = .ok () w := fun op w ox oy xs ys => by
        unfold eqGuard
        split <;> simp [hg]
      split at h
      · refine ⟨_, h, fun O G w ox oy u v hu hv => ?_⟩
        simp only [AV.rep] at hu hv
        obtain ⟨us, rfl, hu⟩ := hu
        obtain ⟨vs, rfl, hv⟩ := hv
        rw [ints_of ea hu, ints_of eb hv]
        refine ⟨_, ?_, vbool_rep _⟩
        rw [Sem.run_bind, hgd]
        simp [binOp, he as bs w la lb]
      · refine ⟨_, h, fun O G w ox oy u v hu hv => ?_⟩
        simp only [AV.rep] at hu hv
        obtain ⟨us, rfl, hu⟩ := hu
        obtain ⟨vs, rfl, hv⟩ := hv
        rw [ints_of ea hu, ints_of eb hv]
        refine ⟨_, ?_, vbool_rep _⟩
        rw [Sem.run_bind, hgd]
        simp [binOp, he as bs w la lb]
      · exact h.elim
    · exact h.elim
  · rename_i rows
    obtain ⟨ti, e, h⟩ := need_some h
    obtain ⟨d, hd, _, hk⟩ := (hE t ti e).desc
    generalize hk' : ti.k = k0 at h
    rw [hk'] at hk
    clear hk'
    split at h
    · simp only [TKok] at hk
      subst hk
      refine ⟨_, h, fun O G w ox oy u v hu hv => ?_⟩
      have hv' : v = .slice none 0 0 := hv
      subst hv'
      obtain ⟨F, hu, _⟩ := hu
      simp only [T.rep] at hu
      obtain ⟨A, c, rfl, _, h3⟩ := hu
      have hq : ∀ d, (Op.equalIn (d + 1) t (.slice A rows.length c) (.slice none 0 0)).run P w = .ok A.isNone w := fun d => by
        cases A <;> simp [Op.equalIn, run_underlying hd]
      refine ⟨.bool A.isNone, ?_, ?_⟩
      · have := hq 9999
        simp [eqGuard, binOp, Op.equal, Op.maxDepth, this]
      · simp only [AV.rep]
        refine ⟨_, rfl, fun hn => ?_⟩
        rcases h3 with ⟨h3, _⟩ | ⟨ad, _, _, _, _, h3, _⟩
        · exact h3
        · subst h3; cases hn
    · exact h.elim
  · exact h.elim

theorem repAVs_get : ∀ {avs : List AV} {vs : List Value} {i : Nat} {av : AV}, repAVs O G w avs vs → avs[i]? = some av → ∃ v, vs[i]? = some v ∧ av.rep O G w v
  | [], vs, i, av, _, hi => by simp at hi
  | x :: xs, vs, i, av, h, hi => by
    simp only [repAVs] at h
    obtain ⟨v, vs', rfl, h2, h3⟩ := h
    cases i with
    | zero => simp at hi; subst hi; exact ⟨v, by simp, h2⟩
    | succ i => obtain ⟨u, h4, h5⟩ := repAVs_get (i := i) h3 (by simpa using hi); exact ⟨u, by simpa using h4, h5⟩

theorem run_fieldAt {t : Nat} {f : Nat} {fs : Array Field} {of : Nat × Nat} (ht : P.underlying t = some (.struct fs)) (hf : (fs.toList.map fun f => (f.offset, f.type))[f]? = some of)
    (hs : ∀ f ∈ fs.toList, ∃ i, P.info? f.type = some i ∧ i.size ≠ 0) (a : Addr) (w : World) :
    (Instr.fieldAt t (.pointer (some a)) f).run P w = .ok (.pointer (some (a.add of.1))) w := by
  rw [List.getElem?_map] at hf
  cases hx : fs.toList[f]? with
  | none => rw [hx] at hf; cases hf
  | some fd =>
    rw [hx] at hf
    injection hf with hf
    subst hf
    have hx' : fs[f]? = some fd := by rw [← Array.getElem?_toList]; exact hx
    obtain ⟨i, hi, hne⟩ := hs fd (List.mem_of_getElem? hx)
    simp [Instr.fieldAt, run_underlying ht, hx', Instr.sureAddr, fieldPlace, sizeOf, typeInfo, hi, hne]

theorem opA_sound (hE : TOk P E) {o : Oper} {vl : Operand → Option AV} {K : AV → Prop} (h : opA E vl o.op K) :
    ∃ av, K av ∧ Gives P vl o av := by
  obtain ⟨dst, op, type, pos, after, guard⟩ := o
  simp only at h ⊢
  unfold opA at h
  split at h
  · rename_i x
    obtain ⟨v, e, h⟩ := need_some h
    exact ⟨v, h, fun O G w a hr => ⟨_, by simp [execOp], hr x (by simp [Op.operands]) v e⟩⟩
  · rename_i x
    obtain ⟨v, e, h⟩ := need_some h
    exact ⟨v, h, fun O G w a hr => ⟨_, by simp [execOp], hr x (by simp [Op.operands]) v e⟩⟩
  · rename_i x
    obtain ⟨v, e, h⟩ := need_some h
    have hx : x ∈ (Op.nilCheck x).operands := by simp [Op.operands]
    split at h
    · refine ⟨_, h, fun O G w a hr => ?_⟩
      have hv := hr x hx _ e
      have hv' := hv
      simp only [AV.rep] at hv
      obtain ⟨_, ad, _, hv⟩ := hv
      exact ⟨_, by simp [execOp, hv]; rfl, by rw [← hv]; exact hv'⟩
    · refine ⟨_, h, fun O G w a hr => ?_⟩
      have hv := hr x hx _ e
      have hv' := hv
      simp only [AV.rep] at hv
      obtain ⟨_, ad, _, _, _, hv⟩ := hv
      exact ⟨_, by simp [execOp, hv]; rfl, by rw [← hv]; exact hv'⟩
    · refine ⟨_, h, fun O G w a hr => ?_⟩
      have hv := hr x hx _ e
      have hv' := hv
      simp only [AV.rep] at hv
      obtain ⟨ad, _, _, hv, _⟩ := hv
      exact ⟨_, by simp [execOp, hv]; rfl, by rw [← hv]; exact hv'⟩
    · refine ⟨_, h, fun O G w a hr => ?_⟩
      have hv := hr x hx _ e
      have hv' := hv
      obtain ⟨hv, _⟩ := hv
      exact ⟨_, by simp [execOp, hv]; rfl, by rw [← hv]; exact hv'⟩
    · refine ⟨_, h, fun O G w a hr => ?_⟩
      have hv := hr x hx _ e
      have hv' := hv
      obtain ⟨F, hv, _⟩ := hv
      simp only [T.rep] at hv
      obtain ⟨vs, hv, _⟩ := hv
      exact ⟨_, by simp [execOp, hv]; rfl, by rw [← hv]; exact hv'⟩
    · refine ⟨_, h, fun O G w a hr => ?_⟩
      have hv := hr x hx _ e
      have hv' := hv
      obtain ⟨F, hv, _⟩ := hv
      simp only [T.rep] at hv
      obtain ⟨ad, cs, F', hv, _⟩ := hv
      exact ⟨_, by simp [execOp, hv]; rfl, by rw [← hv]; exact hv'⟩
    · exact h.elim
  · rename_i c x y
    obtain ⟨vc, ec, h⟩ := need_some h
    split at h
    · rename_i cb
      obtain ⟨vx, ex, h⟩ := need_some h
      obtain ⟨vy, ey, h⟩ := need_some h
      rcases bcase_out h with ⟨hb, hz⟩ | ⟨hb, hz⟩ <;> subst hb
      · refine ⟨_, hz, fun O G w a hr => ⟨_, ?_, hr x (by simp [Op.operands]) vx ex⟩⟩
        simp [execOp, bool_of (hr c (by simp [Op.operands]) _ ec), asBool]
      · refine ⟨_, hz, fun O G w a hr => ⟨_, ?_, hr y (by simp [Op.operands]) vy ey⟩⟩
        simp [execOp, bool_of (hr c (by simp [Op.operands]) _ ec), asBool]
    · exact h.elim
  · rename_i u t x
    obtain ⟨v, e, h⟩ := need_some h
    split at h
    · rename_i b
      split at h
      · refine ⟨_, h, fun O G w a hr => ⟨_, ?_, vbool_rep _⟩⟩
        simp [execOp, bool_of (hr x (by simp [Op.operands]) _ e), Op.unary]
      · exact h.elim
    · rename_i k n
      split at h
      · refine ⟨_, h, fun O G w a hr => ⟨_, ?_, vint_rep _ _⟩⟩
        simp [execOp, int_of (hr x (by simp [Op.operands]) _ e), Op.unary, Op.intArith]
      · exact h.elim
    · exact h.elim
  · rename_i bop t x y yt
    obtain ⟨vx, ex, h⟩ := need_some h
    obtain ⟨vy, ey, h⟩ := need_some h
    obtain ⟨av, hK, hr⟩ := binA_sound hE h
    refine ⟨av, hK, fun O G w a ho => ?_⟩
    obtain ⟨r, h1, h2⟩ := hr O G w x y (a.eval x) (a.eval y) (ho x (by simp [Op.operands]) vx ex) (ho y (by simp [Op.operands]) vy ey)
    exact ⟨r, by simp only [execOp]; rw [Sem.run_bind, h1]; rfl, h2⟩
  · rename_i s d x
    obtain ⟨si, es, h⟩ := need_some h
    obtain ⟨ti, e, h⟩ := need_some h
    obtain ⟨v, ev, h⟩ := need_some h
    split at h
    · rename_i k' n
      split at h
      · rename_i k hk
        refine ⟨_, h, fun O G w a hr => ⟨_, ?_, vint_rep _ _⟩⟩
        obtain ⟨dd, hd, _, hkk⟩ := (hE d ti e).desc
        rw [hk] at hkk
        simp only [TKok] at hkk
        subst hkk
        obtain ⟨sd, hsd, _⟩ := (hE s si es).desc
        have hc : (convert s d (.int k' n)).run P w = .ok (.int k (k.wrap n)) w := by simp [convert, run_underlying hsd, run_underlying hd, Conv.intToInt]
        simp [execOp, int_of (hr x (by simp [Op.operands]) _ ev), hc]
      · exact h.elim
    · exact h.elim
  · rename_i x i
    obtain ⟨v, e, h⟩ := need_some h
    split at h
    · rename_i vs
      obtain ⟨av, ei, h⟩ := need_some h
      refine ⟨av, h, fun O G w a hr => ?_⟩
      have hx := hr x (by simp [Op.operands]) _ e
      simp only [AV.rep] at hx
      obtain ⟨us, hx, hus⟩ := hx
      obtain ⟨u, hu, hru⟩ := repAVs_get hus ei
      exact ⟨u, by simp [execOp, hx, Instr.extract, hu], hru⟩
    · exact h.elim
  · rename_i t x f
    obtain ⟨ti, e, h⟩ := need_some h
    split at h
    · rename_i offs hk
      obtain ⟨d, hd, _, hkk⟩ := (hE t ti e).desc
      rw [hk] at hkk
      obtain ⟨fs, rfl, hof, hss⟩ := hkk
      obtain ⟨of, ef, h⟩ := need_some h
      obtain ⟨v, ev, h⟩ := need_some h
      rw [← hof] at ef
      have run := fun (ad : Addr) w => run_fieldAt (P := P) hd ef hss ad w
      have hx : x ∈ (Op.fieldAddr t x f).operands := by simp [Op.operands]
      split at h
      · refine ⟨_, h, fun O G w a hr => ?_⟩
        have hv := hr x hx _ ev
        simp only [AV.rep] at hv
        obtain ⟨h1, ad, h2, h3⟩ := hv
        exact ⟨_, by simp [execOp, h3, run]; rfl, by simp only [AV.rep]; exact ⟨h1, ad, h2, by rw [add_of_add]⟩⟩
      · refine ⟨_, h, fun O G w a hr => ?_⟩
        have hv := hr x hx _ ev
        simp only [AV.rep] at hv
        obtain ⟨h1, ad, n, c, h2, h3⟩ := hv
        exact ⟨_, by simp [execOp, h3, run]; rfl, by simp only [AV.rep]; exact ⟨h1, ad, n, c, h2, by rw [add_of_add, Nat.add_assoc]⟩⟩
      · refine ⟨_, h, fun O G w a hr => ?_⟩
        have hv := hr x hx _ ev
        simp only [AV.rep] at hv
        obtain ⟨ad, cs, F, h1, h2⟩ := hv
        exact ⟨_, by simp [execOp, h1, run]; rfl, by simp only [AV.rep]; exact ⟨ad, cs, F, by rw [add_of_add], h2⟩⟩
      · refine ⟨_, h, fun O G w a hr => ?_⟩
        have hv := hr x hx _ ev
        obtain ⟨F, hv, him⟩ := hv
        simp only [T.rep] at hv
        obtain ⟨ad, cs, F', h1, h2, h3, h4, h5⟩ := hv
        subst h3
        exact ⟨_, by simp [execOp, h1, run]; rfl, by simp only [AV.rep]; exact ⟨ad, cs, F', rfl, h4, him, h2, h5⟩⟩
      · exact h.elim
    · exact h.elim
  · rename_i f first captured
    obtain ⟨rfl, h⟩ := h
    obtain ⟨vs, e, h⟩ := need_some h
    obtain ⟨ids, e2, h⟩ := need_some h
    refine ⟨_, h, fun O G w a hr => ?_⟩
    have hv := vals_rep (a := a) e (fun x hx => hr x (by simp [Op.operands, Array.mem_toList_iff.1 hx]))
    obtain ⟨h1, h2⟩ := capIds_rep e2 hv
    refine ⟨.func (.func f) #[] (captured.map a.eval), by simp [execOp, Instr.makeFunc], ?_⟩
    refine ⟨?_, h2⟩
    rw [← h1]
    congr 1
    apply Array.ext'
    simp
  · rename_i args argTypes
    obtain ⟨vs, e, h⟩ := need_some h
    split at h
    · rename_i k a' k' b'
      refine ⟨_, h, fun O G w a hr => ⟨_, ?_, vint_rep _ _⟩⟩
      have hv := vals_rep (a := a) e (fun x hx => hr x (by simp only [Op.operands, Call.operands]; simp [Array.mem_toList_iff.1 hx]))
      simp only [repAVs] at hv
      obtain ⟨v1, r1, h1, h2, v2, r2, h3, h4, h5⟩ := hv
      subst h5 h3
      have e3 : args.map a.eval = #[v1, v2] := by apply Array.ext'; rw [Array.toList_map]; exact h1
      simp [execOp, resolve, invoke, builtin, Builtin.min_, e3, int_of h2, int_of h4, Builtin.min2]
    · exact h.elim
  · rename_i args argTypes
    obtain ⟨vs, e, h⟩ := need_some h
    split at h
    · rename_i k a' k' b'
      refine ⟨_, h, fun O G w a hr => ⟨_, ?_, vint_rep _ _⟩⟩
      have hv := vals_rep (a := a) e (fun x hx => hr x (by simp only [Op.operands, Call.operands]; simp [Array.mem_toList_iff.1 hx]))
      simp only [repAVs] at hv
      obtain ⟨v1, r1, h1, h2, v2, r2, h3, h4, h5⟩ := hv
      subst h5 h3
      have e3 : args.map a.eval = #[v1, v2] := by apply Array.ext'; rw [Array.toList_map]; exact h1
      simp [execOp, resolve, invoke, builtin, Builtin.max_, e3, int_of h2, int_of h4, Builtin.max2]
    · exact h.elim
  · exact h.elim
end
end Go.Vm

namespace Go.Vm
open Go.RowKit

/-! ### New ids -/
def Gh.addL (G : Gh) (n : Nat) (l : List (Value × List Nat)) : Gh where
  A := fun j => G.A j ∨ (n ≤ j ∧ j < n + l.length)
  φ := fun j => if n ≤ j ∧ j < n + l.length then (l.getD (j - n) (undef, [])).1 else G.φ j
  Φ := fun j => if n ≤ j ∧ j < n + l.length then (l.getD (j - n) (undef, [])).2 else G.Φ j
  h := fun j => if n ≤ j ∧ j < n + l.length then hd (l.getD (j - n) (undef, [])).1 else G.h j
  b := G.b
  pin := G.pin

section
variable {P : Program} {E : Nat → Option TI} {O : List (Nat × Ob)} {G : Gh} {w w' : World} {w0 : Base}

theorem Gh.addL_old {n : Nat} {l : List (Value × List Nat)} {j : Nat} (hn : ∀ j, n ≤ j → j < n + l.length → ¬ G.A j) (hj : G.A j) :
    (G.addL n l).φ j = G.φ j ∧ (G.addL n l).Φ j = G.Φ j ∧ (G.addL n l).h j = G.h j := by
  have h : ¬ (n ≤ j ∧ j < n + l.length) := fun h => hn j h.1 h.2 hj
  simp only [Gh.addL, if_neg h, and_self]
theorem Gh.addL_new {n k : Nat} {l : List (Value × List Nat)} (hk : k < l.length) : (G.addL n l).φ (n + k) = l[k].1 ∧ (G.addL n l).Φ (n + k) = l[k].2 ∧ (G.addL n l).h (n + k) = hd l[k].1 := by
  have h : n ≤ n + k ∧ n + k < n + l.length := ⟨by omega, by omega⟩
  simp only [Gh.addL, if_pos h]
  have : n + k - n = k := by omega
  rw [this]
  simp [List.getD, List.getElem?_eq_getElem hk]

theorem nodup_flat_get {l : List (List Nat)} (h : l.flatten.Nodup) : (∀ k (hk : k < l.length), l[k].Nodup) ∧
    ∀ i j (hi : i < l.length) (hj : j < l.length), i ≠ j → ∀ b ∈ l[i], b ∉ l[j] := by
  unfold List.Nodup at h
  rw [List.pairwise_flatten] at h
  refine ⟨fun k hk => h.1 _ (List.getElem_mem hk), fun i j hi hj hne b hb hb' => ?_⟩
  have h2 := List.pairwise_iff_getElem.1 h.2
  rcases Nat.lt_or_gt_of_ne hne with hlt | hgt
  · exact h2 i j hi hj hlt b hb b hb' rfl
  · exact h2 j i hj hi hgt b hb' b hb rfl

theorem Mem.newL (hM : Mem w0 O G w) (n : Nat) (l : List (Value × List Nat)) (hn : ∀ j, n ≤ j → j < n + l.length → ¬ G.A j) (hb : Below w.heap.size w w')
    (hF : (l.map (·.2)).flatten.Nodup) (hFc : ∀ p ∈ l, ∀ b ∈ p.2, w.heap.size ≤ b ∧ ∃ arr e, w'.heap[b]? = some (.cells arr e (0, 0)))
    (hh : ∀ p ∈ l, ∀ b ∈ hd p.1, b ∈ p.2)
    (hr : ∀ k o, k < l.length → get O (n + k) = some o → Pres O G w O (G.addL n l) w' → o.rep O (G.addL n l) w' (n + k)) :
    Mem w0 O (G.addL n l) w' ∧ Pres O G w O (G.addL n l) w' := by
  have hnd := nodup_flat_get hF
  have hl : (l.map (·.2)).length = l.length := by simp
  have hX : ∀ id, (n ≤ id ∧ id < n + l.length) → ∃ k, ∃ hk : k < l.length, id = n + k := fun id h => ⟨id - n, by omega, by omega⟩
  refine Mem.step hM (Lv O G) (fun id => n ≤ id ∧ id < n + l.length) (fun id h => ⟨.inl h, (Gh.addL_old hn h).1⟩) ⟨rfl, rfl⟩ (fun id h => ⟨h, rfl, (Gh.addL_old hn h.1).2⟩)
    (fun id h => ?_) hb.os hb.tape hb.output hb.size (fun b hlt _ => hb.block b hlt) (fun id hx => ?_) (fun i j hi hj hne => ?_) (fun id hx b hbb => ?_) (fun id hx b hbb => ?_) (fun id o hx _ hg p => ?_)
  · rcases h.1 with h1 | h1
    · exact .inl ⟨h1, h.2⟩
    · exact .inr h1
  · obtain ⟨k, hk, rfl⟩ := hX id hx
    rw [(Gh.addL_new hk).2.1]
    have h := hnd.1 k (by simpa using hk)
    rwa [List.getElem_map] at h
  · obtain ⟨ki, hki, rfl⟩ := hX i hi
    obtain ⟨kj, hkj, rfl⟩ := hX j hj
    rw [(Gh.addL_new hki).2.1, (Gh.addL_new hkj).2.1]
    have h := hnd.2 ki kj (by simpa using hki) (by simpa using hkj) (by omega)
    rwa [List.getElem_map, List.getElem_map] at h
  · obtain ⟨k, hk, rfl⟩ := hX id hx
    rw [(Gh.addL_new hk).2.1] at hbb
    obtain ⟨h1, h2⟩ := hFc _ (List.getElem_mem hk) b hbb
    exact ⟨.inl h1, h2⟩
  · obtain ⟨k, hk, rfl⟩ := hX id hx
    rw [(Gh.addL_new hk).2.2] at hbb
    rw [(Gh.addL_new hk).2.1]
    have h1 := hh _ (List.getElem_mem hk) b hbb
    exact ⟨h1, .inl (hFc _ (List.getElem_mem hk) b h1).1⟩
  · obtain ⟨k, hk, rfl⟩ := hX id hx
    exact hr k o hk hg p

/-- One new id. -/
def Gh.add (G : Gh) (n : Nat) (v : Value) (F : List Nat) : Gh := G.addL n [(v, F)]
theorem Gh.add_new (n : Nat) (v : Value) (F : List Nat) : (G.add n v F).φ n = v ∧ (G.add n v F).Φ n = F ∧ (G.add n v F).A n ∧ (G.add n v F).h n = hd v := by
  have := Gh.addL_new (G := G) (n := n) (k := 0) (l := [(v, F)]) (by simp)
  exact ⟨this.1, this.2.1, .inr ⟨Nat.le_refl _, by simp⟩, this.2.2⟩
theorem Gh.add_A {n : Nat} {v : Value} {F : List Nat} {j : Nat} (h : (G.add n v F).A j) : G.A j ∨ j = n := by
  rcases h with h | ⟨h1, h2⟩
  · exact .inl h
  · simp at h2; exact .inr (by omega)
theorem Mem.new1 (hM : Mem w0 O G w) (n : Nat) (v : Value) (F : List Nat) (hn : ¬ G.A n) (hb : Below w.heap.size w w')
    (hF : F.Nodup) (hFc : ∀ b ∈ F, w.heap.size ≤ b ∧ ∃ arr e, w'.heap[b]? = some (.cells arr e (0, 0))) (hh : ∀ b ∈ hd v, b ∈ F)
    (hr : ∀ o, get O n = some o → Pres O G w O (G.add n v F) w' → o.rep O (G.add n v F) w' n) :
    Mem w0 O (G.add n v F) w' ∧ Pres O G w O (G.add n v F) w' := by
  refine hM.newL n [(v, F)] (fun j h1 h2 => ?_) hb (by simpa using hF) (by simpa using hFc) (by simpa using hh) (fun k o hk hg p => ?_)
  · simp at h2
    have : j = n := by omega
    subst this; exact hn
  · simp at hk
    subst hk
    exact hr o hg p

/-! ### Lists of cells -/
theorem repCs_get : ∀ {xs : List C} {vs : List Value} {i : Nat} {x : C}, repCs O G w xs vs → xs[i]? = some x → ∃ v, vs[i]? = some v ∧ x.rep O G w v
  | [], vs, i, x, _, hi => by simp at hi
  | y :: ys, vs, i, x, ⟨v, vs', h1, h2, h3⟩, hi => by
    subst h1
    cases i with
    | zero => simp at hi; subst hi; exact ⟨v, by simp, h2⟩
    | succ i => obtain ⟨u, h4, h5⟩ := repCs_get (i := i) h3 (by simpa using hi); exact ⟨u, by simpa using h4, h5⟩
theorem repCs_length : ∀ {xs : List C} {vs : List Value}, repCs O G w xs vs → vs.length = xs.length
  | [], _, h => by simp only [repCs] at h; simp [h]
  | y :: ys, _, ⟨v, vs', h1, h2, h3⟩ => by subst h1; simp [repCs_length h3]
theorem repCs_drop : ∀ {xs : List C} {vs : List Value} (n : Nat), repCs O G w xs vs → repCs O G w (xs.drop n) (vs.drop n)
  | [], vs, n, h => by simp only [repCs] at h; subst h; simp [repCs]
  | y :: ys, _, n, h => by
    cases n with
    | zero => simpa using h
    | succ n => obtain ⟨v, vs', h1, h2, h3⟩ := h; subst h1; simpa using repCs_drop n h3
theorem repCs_take : ∀ {xs : List C} {vs : List Value} (n : Nat), repCs O G w xs vs → repCs O G w (xs.take n) (vs.take n)
  | [], vs, n, h => by simp only [repCs] at h; subst h; simp [repCs]
  | y :: ys, _, n, h => by
    cases n with
    | zero => simp [repCs]
    | succ n => obtain ⟨v, vs', h1, h2, h3⟩ := h; subst h1; simp only [List.take_succ_cons, repCs]; exact ⟨v, _, rfl, h2, repCs_take n h3⟩
theorem repCs_append : ∀ {xs ys : List C} {vs us : List Value}, repCs O G w xs vs → repCs O G w ys us → repCs O G w (xs ++ ys) (vs ++ us)
  | [], ys, vs, us, h, h' => by simp only [repCs] at h; subst h; simpa using h'
  | x :: xs, ys, _, us, ⟨v, vs', h1, h2, h3⟩, h' => by subst h1; simp only [List.cons_append, repCs]; exact ⟨v, _, rfl, h2, repCs_append h3 h'⟩
theorem repCs_t : ∀ {xs : List T} {vs : List Value} {F : List Nat}, repCells w xs vs F → Imm O G F → repCs O G w (xs.map C.t) vs
  | [], vs, F, h, _ => by simp only [repCells] at h; simp [repCs, h.1]
  | x :: xs, vs, F, h, him => by
    simp only [repCells] at h
    obtain ⟨v, cs', F1, F2, h1, rfl, h3, h4⟩ := h
    simp only [List.map_cons, repCs]
    exact ⟨v, cs', h1, ⟨F1, h3, him.sub (by simp +contextual)⟩, repCs_t h4 (him.sub (by simp +contextual))⟩
theorem repCells_drop : ∀ {xs : List T} {vs : List Value} {F : List Nat} (n : Nat), repCells w xs vs F → ∃ F', repCells w (xs.drop n) (vs.drop n) F' ∧ ∀ b ∈ F', b ∈ F
  | [], vs, F, n, h => by simp only [repCells] at h; obtain ⟨rfl, rfl⟩ := h; exact ⟨[], by simp [repCells], by simp⟩
  | y :: ys, vs, F, n, h => by
    cases n with
    | zero => exact ⟨F, by simpa using h, fun b hb => hb⟩
    | succ n =>
      simp only [repCells] at h
      obtain ⟨v, cs', F1, F2, rfl, rfl, h3, h4⟩ := h
      obtain ⟨F', h5, h6⟩ := repCells_drop n h4
      exact ⟨F', by simpa using h5, fun b hb => by simp [h6 b hb]⟩

/-- All cells plain: the same reading whatever the world. -/
theorem plain_rep {x : C} (h : x.isPlain = true) : x.rep O G w x.plain := by
  cases x with
  | nil => rfl
  | nil0 => simp [C.isPlain] at h
  | anc x => simp [C.isPlain] at h
  | t x => cases x with
    | int k n => exact ⟨[], ⟨rfl, rfl⟩, fun _ _ b hb => by simp at hb⟩
    | bool b => exact ⟨[], ⟨rfl, rfl⟩, fun _ _ b hb => by simp at hb⟩
    | str s => exact ⟨[], ⟨rfl, rfl⟩, fun _ _ b hb => by simp at hb⟩
    | lst r => simp [C.isPlain] at h
    | box c => simp [C.isPlain] at h
    | fn f c => simp [C.isPlain] at h
    | raw u => simp [C.isPlain] at h
  | ref id => simp [C.isPlain] at h
  | fn f ids => simp [C.isPlain] at h
  | view id sz lo hi => simp [C.isPlain] at h
theorem plains_rep : ∀ {xs : List C}, xs.all C.isPlain = true → repCs O G w xs (xs.map C.plain)
  | [], _ => by simp [repCs]
  | x :: xs, h => by
    simp only [List.all_cons, Bool.and_eq_true] at h
    simp only [List.map_cons, repCs]
    exact ⟨_, _, rfl, plain_rep h.1, plains_rep h.2⟩

/-! ### Rows as data -/
theorem flat_get {css : List (List Value)} {sz : Nat} (hs : ∀ cs ∈ css, cs.length = sz) : ∀ (i : Nat) cs, css[i]? = some cs → ∀ (j : Nat) u, cs[j]? = some u → css.flatten[i * sz + j]? = some u := by
  induction css with
  | nil => intro i cs hi; simp at hi
  | cons c cs ih =>
    intro i x hi j u hu
    have hc : c.length = sz := hs c (by simp)
    cases i with
    | zero =>
      simp at hi
      subst hi
      simp only [List.flatten_cons, Nat.zero_mul, Nat.zero_add]
      rw [List.getElem?_append_left (List.getElem?_eq_some_iff.1 hu).1]
      exact hu
    | succ i =>
      simp only [List.flatten_cons]
      have h1 : c.length ≤ (i + 1) * sz + j := by rw [hc, Nat.add_mul]; omega
      rw [List.getElem?_append_right h1]
      have h2 : (i + 1) * sz + j - c.length = i * sz + j := by rw [hc, Nat.add_mul]; omega
      rw [h2]
      exact ih (fun y hy => hs y (by simp [hy])) i x (by simpa using hi) j u hu
theorem RowOwn.weak {v : Value} {n sz : Nat} {css : List (List Value)} (hs : ∀ cs ∈ css, cs.length = sz) (h : RowOwn w v n sz css.flatten) : RowWeak w v n sz css := by
  rcases h.2 with ⟨A, rfl, rfl⟩ | ⟨g, o, cap, cur, e, rfl, hp, hh, hnc, _⟩
  · exact ⟨A, 0, rfl, Nat.le_refl _, fun h => absurd h (by omega)⟩
  · exact ⟨some ⟨g, o, none⟩, cap, rfl, hnc, fun _ => ⟨⟨g, o, none⟩, rfl, ⟨cur, e, hh⟩, fun i cs hi j u hu => h.cells _ _ (flat_get hs i cs hi j u hu)⟩⟩
theorem RowWeak.rep {v : Value} {sz : Nat} {rows : List (List T)} {css : List (List Value)} {F' : List Nat} (h : RowWeak w v rows.length sz css) (hr : repRows w rows css F') (hs : ∀ cs ∈ css, cs.length = sz) :
    ∃ F, (T.lst rows).rep w v F ∧ (F = hd v ++ F' ∨ F = []) := by
  obtain ⟨A, c, rfl, hnc, h⟩ := h
  rcases Nat.eq_zero_or_pos rows.length with h0 | h0
  · have : rows = [] := List.eq_nil_of_length_eq_zero h0
    exact ⟨[], by simp only [T.rep]; exact ⟨A, c, rfl, hnc, .inl ⟨this, trivial⟩⟩, by simp⟩
  · obtain ⟨ad, rfl, ⟨arr, e, hh⟩, hc⟩ := h h0
    refine ⟨ad.block :: F', ?_, by cases c with | zero => omega | succ c => simp [hd]⟩
    simp only [T.rep]
    refine ⟨some ad, c, rfl, hnc, .inr ⟨ad, css, F', sz, by intro e; simp [e] at h0, rfl, (Array.getElem?_eq_some_iff.1 hh).1, rfl, hr, fun i cs hi => ⟨hs cs (List.mem_of_getElem? hi), hc i cs hi⟩⟩⟩

/-- An object that is a row: its cells, and that nobody else writes what lies in it. -/
theorem Mem.row (hM : Mem w0 O G w) {id : Nat} {own app : Bool} {sz : Nat} {rows : List (List T)} (ha : G.A id) (hg : get O id = some (.row own app sz rows)) :
    ∃ css F', repRows w rows css F' ∧ (∀ cs ∈ css, cs.length = sz) ∧ RowWeak w (G.φ id) rows.length sz css ∧ Imm O G F' := by
  have hob := hM.obs id _ ha hg
  obtain ⟨css, F', h1, h2, h3, h4⟩ := hob
  refine ⟨css, F', h1, h2, ?_, ?_⟩
  · cases app with
    | true => simp only [if_true] at h3; exact h3.1.weak h2
    | false => simp only [Bool.false_eq_true, if_false] at h3; exact h3.1
  · cases own with
    | true =>
      simp only [if_true] at h4
      intro j hj b hb hbj
      by_cases e : j = id
      · subst e
        have hn := hM.nodup j hj
        rw [h4] at hn
        exact (List.nodup_append.1 hn).2.2 b hbj b hb rfl
      · exact hM.disj id j ⟨ha, _, hg⟩ hj (fun h => e h.symm) b (by rw [h4]; simp [hb]) (hM.hds j hj b hbj)
    | false => simp only [Bool.false_eq_true, if_false] at h4; exact h4.2
end
end Go.Vm

namespace Go.Vm
open Go.RowKit

structure St where
  env : List (Nat × AV)
  objs : List (Nat × Ob)
  next : Nat

def St.new (σ : St) (o : Ob) : St := ⟨σ.env, (σ.next, o) :: σ.objs, σ.next + 1⟩
def St.put (σ : St) (d : Option Nat) (v : AV) : St := match d with | some k => ⟨(k, v) :: σ.env, σ.objs, σ.next⟩ | none => σ
def St.wf (σ : St) : Prop := ∀ id o, get σ.objs id = some o → id < σ.next
structure St.ext (σ σ' : St) : Prop where
  env : σ'.env = σ.env
  next : σ.next ≤ σ'.next
  objs : ∀ id, id < σ.next → get σ'.objs id = get σ.objs id

theorem St.ext_refl (σ : St) : σ.ext σ := ⟨rfl, Nat.le_refl _, fun _ _ => rfl⟩
theorem St.ext_trans {a b c : St} (h : a.ext b) (k : b.ext c) : a.ext c :=
  ⟨k.env.trans h.env, Nat.le_trans h.next k.next, fun id hi => (k.objs id (Nat.lt_of_lt_of_le hi h.next)).trans (h.objs id hi)⟩
theorem St.ext_new (σ : St) (o : Ob) : σ.ext (σ.new o) := ⟨rfl, by simp [St.new], fun id hi => get_cons_other _ _ _ _ (by omega)⟩
theorem St.wf_new (σ : St) (h : σ.wf) (o : Ob) : (σ.new o).wf := by
  intro id x hx
  by_cases e : id = σ.next
  · subst e; simp [St.new]
  · have := h id x (by rw [← hx]; exact (get_cons_other _ _ _ _ e).symm)
    simp only [St.new]
    omega
theorem St.new_get (σ : St) (o : Ob) : get (σ.new o).objs σ.next = some o := get_cons_same _ _ _

def repVs (w : World) : List V → List Value → Prop
  | [], vs => vs = []
  | x :: xs, vs => ∃ v vs' F, vs = v :: vs' ∧ x.rep w v F ∧ repVs w xs vs'

/-- A result's cell: data without blocks; a row in new memory that may be appended to; a row in new memory of which only the cells are known. -/
inductive RC where
  | s (x : T)
  | l (sz : Nat) (rows : List (List T))
  | w (sz : Nat) (rows : List (List T))
inductive RV where
  | one (x : RC)
  | agg (xs : List RC)

def RC.rep (w : World) : RC → Value → List Nat → Prop
  | .s x, v, F => x.rep w v [] ∧ F = []
  | .l sz rows, v, F => ∃ css F', repRows w rows css F' ∧ (∀ cs ∈ css, cs.length = sz) ∧ RowOwn w v rows.length sz css.flatten ∧ F = hd v ++ F'
  | .w sz rows, v, F => ∃ css F', repRows w rows css F' ∧ (∀ cs ∈ css, cs.length = sz) ∧ RowWeak w v rows.length sz css ∧ F = hd v ++ F'
def repRCs (w : World) : List RC → List Value → List Nat → Prop
  | [], vs, F => vs = [] ∧ F = []
  | x :: xs, vs, F => ∃ v vs' F1 F2, vs = v :: vs' ∧ F = F1 ++ F2 ∧ x.rep w v F1 ∧ repRCs w xs vs' F2
def RV.rep (w : World) : RV → Value → List Nat → Prop
  | .one x, v, F => x.rep w v F
  | .agg xs, v, F => ∃ vs, v = .agg (List.toArray vs) ∧ repRCs w xs vs F
def repRVs (w : World) : List RV → List Value → List Nat → Prop
  | [], vs, F => vs = [] ∧ F = []
  | x :: xs, vs, F => ∃ v vs' F1 F2, vs = v :: vs' ∧ F = F1 ++ F2 ∧ x.rep w v F1 ∧ repRVs w xs vs' F2

def retOf : List Value → Value → Prop
  | [x], v => v = x
  | vs, v => v = .tuple vs.toArray

def Enter (P : Program) (f : FuncId) : Prop := ∃ fn c, P.funcs[f]? = some fn ∧ fn.body = some c ∧ (fn.name == "runtime.NumGoroutine") = false

/-- THE CONTRACT: called with values that read as 'args', whatever the memory, the function returns values that read as 'rs', in new memory that lies apart; nothing that was there has turned. -/
def FnAt (P : Program) (f : FuncId) (args : List V) (rs : List RV) : Prop :=
  Enter P f ∧ ∀ (w : World) (vs : List Value), repVs w args vs →
    Calls P f vs.toArray w fun e w' => ∃ us F v, e = .returned v ∧ retOf us v ∧ repRVs w' rs us F ∧ F.Nodup ∧
      (∀ b ∈ F, w.heap.size ≤ b ∧ ∃ arr e, w'.heap[b]? = some (.cells arr e (0, 0))) ∧ Below w.heap.size w w'

/-! ### Results taken in -/
def impC (σ : St) : RC → C × St
  | .s x => (.t x, σ)
  | .l sz rows => (.ref σ.next, σ.new (.row true true sz rows))
  | .w sz rows => (.ref σ.next, σ.new (.row true false sz rows))
def impCs (σ : St) : List RC → List C × St
  | [] => ([], σ)
  | x :: xs => ((impC σ x).1 :: (impCs (impC σ x).2 xs).1, (impCs (impC σ x).2 xs).2)
def impV (σ : St) : RV → AV × St
  | .one x => (.c (impC σ x).1, (impC σ x).2)
  | .agg xs => (.agg (impCs σ xs).1, (impCs σ xs).2)
def impVs (σ : St) : List RV → List AV × St
  | [] => ([], σ)
  | x :: xs => ((impV σ x).1 :: (impVs (impV σ x).2 xs).1, (impVs (impV σ x).2 xs).2)
def impR (σ : St) : List RV → AV × St
  | [x] => impV σ x
  | xs => (.tup (impVs σ xs).1, (impVs σ xs).2)

/-- What the ghost gets for results that are taken in: from σ to σ' the ids are laid for 'l'. -/
structure Imp (w : World) (σ σ' : St) (l : List (Value × List Nat)) (F : List Nat) (R : List (Nat × Ob) → Gh → Prop) : Prop where
  ext : σ.ext σ'
  wf : σ'.wf
  next : σ'.next = σ.next + l.length
  flat : (l.map (·.2)).flatten = F
  hds : ∀ p ∈ l, ∀ b ∈ hd p.1, b ∈ p.2
  have_ : ∀ k, k < l.length → ∃ o, get σ'.objs (σ.next + k) = some o
  obs : ∀ k (hk : k < l.length) o, get σ'.objs (σ.next + k) = some o → ∀ O G, G.φ (σ.next + k) = l[k].1 → (G.Φ (σ.next + k) = l[k].2 ∧ G.h (σ.next + k) = hd l[k].1) → o.rep O G w (σ.next + k)
  rep : ∀ O G, (∀ k (hk : k < l.length), G.A (σ.next + k) ∧ G.φ (σ.next + k) = l[k].1) → R O G

theorem Imp.cons {w : World} {σ a b : St} {l m : List (Value × List Nat)} {F1 F2 : List Nat} {R1 R2 : List (Nat × Ob) → Gh → Prop} (h : Imp w σ a l F1 R1) (k : Imp w a b m F2 R2) :
    Imp w σ b (l ++ m) (F1 ++ F2) (fun O G => R1 O G ∧ R2 O G) := by
  have hn := h.next
  refine ⟨St.ext_trans h.ext k.ext, k.wf, by rw [k.next, h.next, List.length_append]; omega, by rw [List.map_append, List.flatten_append, h.flat, k.flat], fun p hp => ?_, fun i hi => ?_, fun i hi o hg O G hφ hΦ => ?_, fun O G hG => ⟨h.rep O G fun i hi => ?_, k.rep O G fun i hi => ?_⟩⟩
  · rcases List.mem_append.1 hp with hp | hp
    · exact h.hds p hp
    · exact k.hds p hp
  · by_cases hlt : i < l.length
    · obtain ⟨o, ho⟩ := h.have_ i hlt
      exact ⟨o, by rw [k.ext.objs _ (by omega)]; exact ho⟩
    · rw [List.length_append] at hi
      obtain ⟨o, ho⟩ := k.have_ (i - l.length) (by omega)
      exact ⟨o, by rw [← ho, hn]; congr 1; omega⟩
  · by_cases hlt : i < l.length
    · rw [List.getElem_append_left hlt] at hφ hΦ
      exact h.obs i hlt o (by rw [← hg]; exact (k.ext.objs _ (by omega)).symm) O G hφ hΦ
    · have e : a.next + (i - l.length) = σ.next + i := by omega
      rw [List.getElem_append_right (by omega)] at hφ hΦ
      rw [List.length_append] at hi
      have := k.obs (i - l.length) (by omega) o (by rw [e]; exact hg) O G (by rw [e]; exact hφ) (by rw [e]; exact hΦ)
      rwa [e] at this
  · have := hG i (by rw [List.length_append]; omega)
    rw [List.getElem_append_left hi] at this
    exact this
  · have e : a.next + i = σ.next + (l.length + i) := by omega
    have := hG (l.length + i) (by rw [List.length_append]; omega)
    rw [List.getElem_append_right (by omega)] at this
    rw [e]
    simpa using this

theorem one_slice (A : Option Addr) (n c : Nat) : one (.slice A n c) := ⟨rfl, rfl⟩
theorem RowOwn.one {w : World} {v : Value} {n sz : Nat} {xs : List Value} (h : RowOwn w v n sz xs) : one v := by
  rcases h.2 with ⟨A, rfl, _⟩ | ⟨g, o, cap, cur, e, rfl, _⟩ <;> exact one_slice _ _ _
theorem RowWeak.one {w : World} {v : Value} {n sz : Nat} {xs : List (List Value)} (h : RowWeak w v n sz xs) : one v := by
  obtain ⟨A, c, rfl, _⟩ := h
  exact one_slice _ _ _

theorem impC_sound {w : World} {σ : St} (hw : σ.wf) : ∀ (x : RC) {v : Value} {F : List Nat}, x.rep w v F → ∃ l, Imp w σ (impC σ x).2 l F (fun O G => (impC σ x).1.rep O G w v)
  | .s x, v, F, ⟨h, hF⟩ => ⟨[], by
      subst hF
      exact ⟨σ.ext_refl, hw, rfl, rfl, by simp, by simp, by simp, fun O G _ => ⟨[], h, fun _ _ b hb => by simp at hb⟩⟩⟩
  | .l sz rows, v, F, ⟨css, F', h1, h2, h3, hF⟩ => ⟨[(v, F)], by
      refine ⟨σ.ext_new _, St.wf_new σ hw _, rfl, by simp, by simp +contextual [hF], fun k hk => ⟨_, by simp at hk; subst hk; exact σ.new_get _⟩, fun k hk o hg O G hφ hΦ => ?_, fun O G hG => ?_⟩
      · simp at hk
        subst hk
        have e : get (σ.new (.row true true sz rows)).objs σ.next = some o := hg
        rw [σ.new_get] at e
        injection e with e
        subst e
        have hφ' : G.φ σ.next = v := hφ
        have hΦ' : G.Φ σ.next = F := hΦ.1
        have hH' : G.h σ.next = hd v := hΦ.2
        show Ob.rep O G w σ.next _
        refine ⟨css, F', h1, h2, ?_, ?_⟩
        · simp only [if_true]; rw [hφ']; exact ⟨h3, hH'⟩
        · simp only [if_true]; rw [hH', hΦ', hF]
      · have := hG 0 (by simp)
        exact ⟨this.1, this.2.symm, h3.one⟩⟩
  | .w sz rows, v, F, ⟨css, F', h1, h2, h3, hF⟩ => ⟨[(v, F)], by
      refine ⟨σ.ext_new _, St.wf_new σ hw _, rfl, by simp, by simp +contextual [hF], fun k hk => ⟨_, by simp at hk; subst hk; exact σ.new_get _⟩, fun k hk o hg O G hφ hΦ => ?_, fun O G hG => ?_⟩
      · simp at hk
        subst hk
        have e : get (σ.new (.row true false sz rows)).objs σ.next = some o := hg
        rw [σ.new_get] at e
        injection e with e
        subst e
        have hφ' : G.φ σ.next = v := hφ
        have hΦ' : G.Φ σ.next = F := hΦ.1
        have hH' : G.h σ.next = hd v := hΦ.2
        show Ob.rep O G w σ.next _
        refine ⟨css, F', h1, h2, ?_, ?_⟩
        · simp only [Bool.false_eq_true, if_false]; rw [hφ']; exact ⟨h3, .inl hH'⟩
        · simp only [if_true]; rw [hH', hΦ', hF]
      · have := hG 0 (by simp)
        exact ⟨this.1, this.2.symm, h3.one⟩⟩

theorem impCs_sound {w : World} : ∀ (xs : List RC) {σ : St} {vs : List Value} {F : List Nat}, σ.wf → repRCs w xs vs F → ∃ l, Imp w σ (impCs σ xs).2 l F (fun O G => repCs O G w (impCs σ xs).1 vs)
  | [], σ, vs, F, hw, ⟨h1, h2⟩ => ⟨[], by subst h1 h2; exact ⟨σ.ext_refl, hw, rfl, rfl, by simp, by simp, by simp, fun O G _ => rfl⟩⟩
  | x :: xs, σ, vs, F, hw, ⟨v, vs', F1, F2, h1, h2, h3, h4⟩ => by
    subst h1 h2
    obtain ⟨l, hl⟩ := impC_sound hw x h3
    obtain ⟨m, hm⟩ := impCs_sound xs hl.wf h4
    have := hl.cons hm
    exact ⟨l ++ m, ⟨this.ext, this.wf, this.next, this.flat, this.hds, this.have_, this.obs, fun O G hG => ⟨v, vs', rfl, (this.rep O G hG).1, (this.rep O G hG).2⟩⟩⟩

theorem impV_sound {w : World} {σ : St} (hw : σ.wf) : ∀ (x : RV) {v : Value} {F : List Nat}, x.rep w v F → ∃ l, Imp w σ (impV σ x).2 l F (fun O G => (impV σ x).1.rep O G w v)
  | .one x, v, F, h => impC_sound hw x h
  | .agg xs, v, F, ⟨vs, h1, h2⟩ => by
    obtain ⟨l, this⟩ := impCs_sound xs hw h2
    exact ⟨l, ⟨this.ext, this.wf, this.next, this.flat, this.hds, this.have_, this.obs, fun O G hG => by
      simp only [impV, AV.rep]
      exact ⟨vs, h1, this.rep O G hG⟩⟩⟩
theorem impVs_sound {w : World} : ∀ (xs : List RV) {σ : St} {vs : List Value} {F : List Nat}, σ.wf → repRVs w xs vs F → ∃ l, Imp w σ (impVs σ xs).2 l F (fun O G => repAVs O G w (impVs σ xs).1 vs)
  | [], σ, vs, F, hw, ⟨h1, h2⟩ => ⟨[], by subst h1 h2; exact ⟨σ.ext_refl, hw, rfl, rfl, by simp, by simp, by simp, fun O G _ => by simp only [impVs, repAVs]⟩⟩
  | x :: xs, σ, vs, F, hw, ⟨v, vs', F1, F2, h1, h2, h3, h4⟩ => by
    subst h1 h2
    obtain ⟨l, hl⟩ := impV_sound hw x h3
    obtain ⟨m, hm⟩ := impVs_sound xs hl.wf h4
    have := hl.cons hm
    exact ⟨l ++ m, ⟨this.ext, this.wf, this.next, this.flat, this.hds, this.have_, this.obs, fun O G hG => by
      simp only [impVs, repAVs]
      exact ⟨v, vs', rfl, (this.rep O G hG).1, (this.rep O G hG).2⟩⟩⟩
theorem impR_sound {w : World} {xs : List RV} {σ : St} {vs : List Value} {v : Value} {F : List Nat} (hw : σ.wf) (h : repRVs w xs vs F) (hv : retOf vs v) :
    ∃ l, Imp w σ (impR σ xs).2 l F (fun O G => (impR σ xs).1.rep O G w v) := by
  match xs, h with
  | [x], ⟨u, vs', F1, F2, h1, h2, h3, h4⟩ =>
    obtain ⟨h5, h6⟩ := h4
    subst h5 h6 h1
    simp only [retOf] at hv
    subst hv
    have := impV_sound hw x h3
    simpa [h2, impR] using this
  | [], h =>
    obtain ⟨h1, h2⟩ := h
    subst h1 h2
    simp only [retOf] at hv
    subst hv
    obtain ⟨l, this⟩ := impVs_sound (w := w) [] hw ⟨rfl, rfl⟩
    exact ⟨l, ⟨this.ext, this.wf, this.next, this.flat, this.hds, this.have_, this.obs, fun O G hG => by
      simp only [impR, AV.rep]
      exact ⟨[], rfl, this.rep O G hG⟩⟩⟩
  | x :: y :: zs, h =>
    obtain ⟨l, this⟩ := impVs_sound (x :: y :: zs) hw h
    have e : v = .tuple vs.toArray := by
      obtain ⟨u, vs', F1, F2, h1, h2, h3, u', vs'', F3, F4, h4, h5, h6⟩ := h
      subst h1 h4
      exact hv
    exact ⟨l, ⟨this.ext, this.wf, this.next, this.flat, this.hds, this.have_, this.obs, fun O G hG => by
      simp only [impR, AV.rep]
      exact ⟨vs, e, this.rep O G hG⟩⟩⟩

/-! ### A caller's values as arguments -/
def mapO {α β : Type} (f : α → Option β) : List α → Option (List β)
  | [] => some []
  | x :: xs => match f x, mapO f xs with
    | some y, some ys => some (y :: ys)
    | _, _ => none
def T1 (O : List (Nat × Ob)) : C → Option T
  | .nil => some (.lst [])
  | .nil0 => some (.lst [])
  | .anc x => some x
  | .t x => some x
  | .ref id => match get O id with
    | some (.row _ _ _ rows) => some (.lst rows)
    | some (.vw rows) => some (.lst rows)
    | _ => none
  | .view id sz lo hi => match get O id with
    | some (.row _ _ sz' rows) => bif Nat.beq sz sz' then some (.lst ((rows.take hi).drop lo)) else none
    | _ => none
  | _ => none
def boxT (O : List (Nat × Ob)) (id : Nat) : Option T := match get O id with
  | some (.box cs) => match mapO (T1 O) cs with | some ts => some (.box ts) | none => none
  | _ => none
def T2 (O : List (Nat × Ob)) : C → Option T
  | .fn f ids => match mapO (boxT O) ids with | some bs => some (.fn f bs) | none => none
  | .ref id => match get O id with
    | some (.row _ _ _ rows) => some (.lst rows)
    | some (.vw rows) => some (.lst rows)
    | some (.tmp _ rows) => match mapO (mapO (T1 O)) rows with | some ts => some (.lst ts) | none => none
    | _ => none
  | x => T1 O x
def argV (O : List (Nat × Ob)) : AV → Option V
  | .c x => match T2 O x with | some y => some (.one y) | none => none
  | .agg xs => match mapO (T2 O) xs with | some ys => some (.agg ys) | none => none
  | .ptr id 0 => match boxT O id with | some b => some (.one b) | none => none
  | _ => none

section
variable {O : List (Nat × Ob)} {G : Gh} {w : World} {w0 : Base}

theorem repRows_cut : ∀ {xs : List (List T)} {vs : List (List Value)} {F : List Nat} (n : Nat), repRows w xs vs F → ∃ F1 F2, F = F1 ++ F2 ∧ repRows w (xs.take n) (vs.take n) F1 ∧ repRows w (xs.drop n) (vs.drop n) F2
  | [], vs, F, n, h => by simp only [repRows] at h; obtain ⟨rfl, rfl⟩ := h; exact ⟨[], [], rfl, by simp [repRows], by simp [repRows]⟩
  | x :: xs, vs, F, n, h => by
    cases n with
    | zero => exact ⟨[], F, rfl, by simp [repRows], by simpa using h⟩
    | succ n =>
      simp only [repRows] at h
      obtain ⟨v, cs', F1, F2, rfl, rfl, h3, h4⟩ := h
      obtain ⟨F3, F4, rfl, h5, h6⟩ := repRows_cut n h4
      exact ⟨F1 ++ F3, F4, by simp, by simp only [List.take_succ_cons, repRows]; exact ⟨v, _, F1, F3, rfl, rfl, h3, h5⟩, by simpa using h6⟩

/-- A part of a row. -/
theorem Mem.view (hM : Mem w0 O G w) {id sz lo hi : Nat} {own app : Bool} {rows : List (List T)} {v : Value} (hr : (C.view id sz lo hi).rep O G w v) (hg : get O id = some (.row own app sz rows)) :
    ∃ css F, repRows w ((rows.take hi).drop lo) css F ∧ (∀ cs ∈ css, cs.length = sz) ∧ RowWeak w v ((rows.take hi).drop lo).length sz css ∧ Imm O G F := by
  obtain ⟨h1, h2, A, c, h3, h0, h4⟩ := hr
  obtain ⟨css, F', h6, h7, h8, h9⟩ := hM.row h1 hg
  obtain ⟨F1, F2, rfl, r1, r2⟩ := repRows_cut hi h6
  obtain ⟨F3, F4, rfl, r3, r4⟩ := repRows_cut lo r1
  refine ⟨(css.take hi).drop lo, F4, r4, fun cs hcs => h7 cs (List.mem_of_mem_take (List.mem_of_mem_drop hcs)), ?_, h9.sub (fun b hb => by simp [hb])⟩
  by_cases hlt : lo < hi
  · obtain ⟨ad, n, c', h5, rfl, hn, _⟩ := h4 hlt
    obtain ⟨A', c2, h10, h11, h12⟩ := h8
    rw [h5] at h10
    injection h10 with e1 e2 e3
    subst e2 e3
    obtain ⟨ad', e4, hcell, hgrid⟩ := h12 (by omega)
    rw [e4] at e1
    injection e1 with e1
    subst e1
    have hlen : ((rows.take hi).drop lo).length = hi - lo := by rw [List.length_drop, List.length_take, Nat.min_eq_left hn]
    rw [hlen]
    refine ⟨_, c, h3, h0, fun _ => ⟨_, rfl, by rw [block_of_add]; exact hcell, fun i cs hi2 j u hu => ?_⟩⟩
    rw [List.getElem?_drop] at hi2
    have hlt2 : lo + i < hi := by have := (List.getElem?_eq_some_iff.1 hi2).1; simp at this; omega
    rw [List.getElem?_take_of_lt hlt2] at hi2
    rw [add_of_add, ← Nat.add_assoc, ← Nat.add_mul]
    exact hgrid (lo + i) cs hi2 j u hu
  · have hlen : ((rows.take hi).drop lo).length = 0 := by rw [List.length_drop, List.length_take]; have := Nat.min_le_left hi rows.length; omega
    rw [hlen]
    refine ⟨A, c, by rw [h3]; congr 1; omega, Nat.zero_le _, fun h => absurd h (by omega)⟩

theorem T1_sound (hM : Mem w0 O G w) {x : C} {y : T} {v : Value} (h : T1 O x = some y) (hr : x.rep O G w v) : ∃ F, y.rep w v F := by
  cases x with
  | nil =>
    simp only [T1, Option.some.injEq] at h
    subst h
    have hr' : v = .slice none 0 0 := hr
    subst hr'
    exact ⟨[], by simp only [T.rep]; exact ⟨none, 0, rfl, Nat.le_refl _, .inl ⟨trivial, trivial⟩⟩⟩
  | nil0 =>
    simp only [T1, Option.some.injEq] at h
    subst h
    obtain ⟨A, hr⟩ := hr
    subst hr
    exact ⟨[], by simp only [T.rep]; exact ⟨A, 0, rfl, Nat.le_refl _, .inl ⟨trivial, trivial⟩⟩⟩
  | t x =>
    simp only [T1, Option.some.injEq] at h
    subst h
    obtain ⟨F, h1, _⟩ := hr
    exact ⟨F, h1⟩
  | anc x =>
    simp only [T1, Option.some.injEq] at h
    subst h
    obtain ⟨F, h1, _⟩ := hr
    exact ⟨F, h1⟩
  | ref id =>
    simp only [T1] at h
    split at h
    · rename_i own app sz rows hg
      injection h with h
      subst h
      obtain ⟨h1, h2, _⟩ := hr
      subst h2
      obtain ⟨css, F', h3, h4, h5, _⟩ := hM.row h1 hg
      obtain ⟨F, h6, _⟩ := h5.rep h3 h4
      exact ⟨F, h6⟩
    · rename_i rows hg
      injection h with h
      subst h
      obtain ⟨h1, h2, _⟩ := hr
      subst h2
      obtain ⟨⟨F, h6, _⟩, _⟩ := hM.obs id _ h1 hg
      exact ⟨F, h6⟩
    · cases h
  | fn f ids => simp [T1] at h
  | view id sz lo hi =>
    simp only [T1] at h
    split at h
    · rename_i own app sz' rows hg
      cases hb : Nat.beq sz sz' with
      | false => rw [hb] at h; cases h
      | true =>
        rw [hb] at h
        injection h with h
        subst h
        have := Nat.eq_of_beq_eq_true hb
        subst this
        obtain ⟨css, F', h3, h4, h5, _⟩ := hM.view hr hg
        obtain ⟨F, h6, _⟩ := h5.rep h3 h4
        exact ⟨F, h6⟩
    · cases h
theorem T1s_sound (hM : Mem w0 O G w) : ∀ {xs : List C} {ys : List T} {vs : List Value}, mapO (T1 O) xs = some ys → repCs O G w xs vs → ∃ F, repCells w ys vs F
  | [], ys, vs, h, hr => by simp only [mapO, Option.some.injEq] at h; subst h; exact ⟨[], by simp only [repCells]; exact ⟨hr, trivial⟩⟩
  | x :: xs, ys, vs, h, ⟨v, vs', h1, h2, h3⟩ => by
    simp only [mapO] at h
    split at h
    · rename_i y ys' e1 e2
      injection h with h
      subst h h1
      obtain ⟨F1, h4⟩ := T1_sound hM e1 h2
      obtain ⟨F2, h5⟩ := T1s_sound hM e2 h3
      exact ⟨F1 ++ F2, by simp only [repCells]; exact ⟨v, vs', F1, F2, rfl, rfl, h4, h5⟩⟩
    · cases h
theorem T1ss_sound (hM : Mem w0 O G w) : ∀ {xs : List (List C)} {ys : List (List T)} {vs : List (List Value)}, mapO (mapO (T1 O)) xs = some ys → repCss O G w xs vs → ∃ F, repRows w ys vs F
  | [], ys, vs, h, hr => by simp only [mapO, Option.some.injEq] at h; subst h; exact ⟨[], by simp only [repRows]; exact ⟨hr, trivial⟩⟩
  | x :: xs, ys, vs, h, ⟨v, vs', h1, h2, h3⟩ => by
    simp only [mapO] at h
    split at h
    · rename_i y ys' e1 e2
      injection h with h
      subst h h1
      obtain ⟨F1, h4⟩ := T1s_sound hM e1 h2
      obtain ⟨F2, h5⟩ := T1ss_sound hM e2 h3
      exact ⟨F1 ++ F2, by simp only [repRows]; exact ⟨v, vs', F1, F2, rfl, rfl, h4, h5⟩⟩
    · cases h
theorem boxT_sound (hM : Mem w0 O G w) {id : Nat} {y : T} (h : boxT O id = some y) (ha : G.A id) : ∃ F, y.rep w (G.φ id) F := by
  simp only [boxT] at h
  split at h
  · rename_i cs hg
    split at h
    · rename_i ts e
      injection h with h
      subst h
      obtain ⟨g, vs, el, h1, h2, h3, h4⟩ := hM.obs id _ ha hg
      obtain ⟨F, h5⟩ := T1s_sound hM e h3
      refine ⟨g :: F, ?_⟩
      simp only [T.rep]
      refine ⟨⟨g, 0, none⟩, vs, F, h1, (Array.getElem?_eq_some_iff.1 h2).1, rfl, h5, fun j u hu => ?_⟩
      have hadd : ((⟨g, 0, none⟩ : Addr).add j) = ⟨g, j, none⟩ := by unfold Addr.add; split <;> simp_all
      rw [hadd]
      simp only [World.cell?, h2]
      simpa using hu
    · cases h
  · cases h
theorem boxTs_sound (hM : Mem w0 O G w) : ∀ {ids : List Nat} {ys : List T}, mapO (boxT O) ids = some ys → (∀ id ∈ ids, G.A id) → ∃ F, repCells w ys (ids.map G.φ) F
  | [], ys, h, _ => by simp only [mapO, Option.some.injEq] at h; subst h; exact ⟨[], by simp [repCells]⟩
  | x :: xs, ys, h, ha => by
    simp only [mapO] at h
    split at h
    · rename_i y ys' e1 e2
      injection h with h
      subst h
      obtain ⟨F1, h4⟩ := boxT_sound hM e1 (ha x (by simp))
      obtain ⟨F2, h5⟩ := boxTs_sound hM e2 (fun id hi => ha id (by simp [hi]))
      exact ⟨F1 ++ F2, by simp only [List.map_cons, repCells]; exact ⟨_, _, F1, F2, rfl, rfl, h4, h5⟩⟩
    · cases h
theorem T2_sound (hM : Mem w0 O G w) {x : C} {y : T} {v : Value} (h : T2 O x = some y) (hr : x.rep O G w v) : ∃ F, y.rep w v F := by
  cases x with
  | nil => exact T1_sound hM (x := .nil) h hr
  | nil0 => exact T1_sound hM (x := .nil0) h hr
  | t x => exact T1_sound hM (x := .t x) h hr
  | anc x => exact T1_sound hM (x := .anc x) h hr
  | view id sz lo hi => exact T1_sound hM (x := .view id sz lo hi) h hr
  | ref id =>
    simp only [T2] at h
    split at h
    · rename_i hg
      exact T1_sound hM (x := .ref id) (by simp only [T1, hg]; exact h) hr
    · rename_i hg
      exact T1_sound hM (x := .ref id) (by simp only [T1, hg]; exact h) hr
    · rename_i sz rows hg
      split at h
      · rename_i ts e
        injection h with h
        subst h
        obtain ⟨h1, h2, _⟩ := hr
        subst h2
        obtain ⟨css, h3, h4, h5, h6⟩ := hM.obs id _ h1 hg
        obtain ⟨F, h7⟩ := T1ss_sound hM e h3
        have hl : rows.length = ts.length := by
          have a1 := repRows_length h7
          have a2 : ∀ {xs : List (List C)} {vs : List (List Value)}, repCss O G w xs vs → vs.length = xs.length := by
            intro xs
            induction xs with
            | nil => intro vs h; simp only [repCss] at h; simp [h]
            | cons a as ih => intro vs h; obtain ⟨v, vs', h1, h2, h3⟩ := h; subst h1; simp [ih h3]
          rw [← a1, a2 h3]
        rw [hl] at h5
        obtain ⟨F2, h8, _⟩ := (h5.weak h4).rep h7 h4
        exact ⟨F2, h8⟩
      · cases h
    · cases h
  | fn f ids =>
    simp only [T2] at h
    split at h
    · rename_i bs e
      injection h with h
      subst h
      obtain ⟨h1, h2⟩ := hr
      obtain ⟨F, h3⟩ := boxTs_sound hM e h2
      exact ⟨F, by simp only [T.rep]; exact ⟨_, h1, h3⟩⟩
    · cases h
theorem T2s_sound (hM : Mem w0 O G w) : ∀ {xs : List C} {ys : List T} {vs : List Value}, mapO (T2 O) xs = some ys → repCs O G w xs vs → ∃ F, repCells w ys vs F
  | [], ys, vs, h, hr => by simp only [mapO, Option.some.injEq] at h; subst h; exact ⟨[], by simp only [repCells]; exact ⟨hr, trivial⟩⟩
  | x :: xs, ys, vs, h, ⟨v, vs', h1, h2, h3⟩ => by
    simp only [mapO] at h
    split at h
    · rename_i y ys' e1 e2
      injection h with h
      subst h h1
      obtain ⟨F1, h4⟩ := T2_sound hM e1 h2
      obtain ⟨F2, h5⟩ := T2s_sound hM e2 h3
      exact ⟨F1 ++ F2, by simp only [repCells]; exact ⟨v, vs', F1, F2, rfl, rfl, h4, h5⟩⟩
    · cases h
theorem addr_add0 (a : Addr) : a.add 0 = a := by simp [Addr.add]
theorem argV_sound (hM : Mem w0 O G w) {x : AV} {y : V} {v : Value} (h : argV O x = some y) (hr : x.rep O G w v) : ∃ F, y.rep w v F := by
  unfold argV at h
  split at h
  · split at h
    · rename_i e
      injection h with h
      subst h
      simp only [AV.rep] at hr
      exact T2_sound hM e hr
    · cases h
  · split at h
    · rename_i e
      injection h with h
      subst h
      simp only [AV.rep] at hr
      obtain ⟨vs, h1, h2⟩ := hr
      obtain ⟨F, h3⟩ := T2s_sound hM e h2
      exact ⟨F, vs, h1, h3⟩
    · cases h
  · split at h
    · rename_i e
      injection h with h
      subst h
      simp only [AV.rep] at hr
      obtain ⟨h1, ad, h2, h3⟩ := hr
      rw [addr_add0, ← h2] at h3
      subst h3
      exact boxT_sound hM e h1
    · cases h
  · cases h
theorem argVs_sound (hM : Mem w0 O G w) : ∀ {xs : List AV} {ys : List V} {vs : List Value}, mapO (argV O) xs = some ys → repAVs O G w xs vs → repVs w ys vs
  | [], ys, vs, h, hr => by simp only [mapO, Option.some.injEq] at h; subst h; simpa only [repAVs, repVs] using hr
  | x :: xs, ys, vs, h, hr => by
    simp only [mapO] at h
    split at h
    · rename_i y ys' e1 e2
      injection h with h
      subst h
      simp only [repAVs] at hr
      obtain ⟨v, vs', h1, h2, h3⟩ := hr
      obtain ⟨F, h4⟩ := argV_sound hM e1 h2
      exact ⟨v, vs', F, h1, h4, argVs_sound hM e2 h3⟩
    · cases h
theorem repVs_append : ∀ {xs ys : List V} {vs us : List Value}, repVs w xs vs → repVs w ys us → repVs w (xs ++ ys) (vs ++ us)
  | [], ys, vs, us, h, h' => by simp only [repVs] at h; subst h; simpa using h'
  | x :: xs, ys, _, us, ⟨v, vs', F, h1, h2, h3⟩, h' => by subst h1; simp only [List.cons_append, repVs]; exact ⟨v, _, F, rfl, h2, repVs_append h3 h'⟩
theorem repVs_ones : ∀ {xs : List T} {vs : List Value} {F : List Nat}, repCells w xs vs F → repVs w (xs.map V.one) vs
  | [], vs, F, h => by simp only [repCells] at h; simp [repVs, h.1]
  | x :: xs, vs, F, h => by
    simp only [repCells] at h
    obtain ⟨v, cs', F1, F2, h1, h2, h3, h4⟩ := h
    simp only [List.map_cons, repVs]
    exact ⟨v, cs', F1, h1, h3, repVs_ones h4⟩
end
end Go.Vm

namespace Go.Vm
open Go.RowKit

def cellsOf : AV → Option (List C)
  | .c x => some [x]
  | .agg xs => some xs
  | _ => none
def scalT : C → Option T
  | .t (.int k n) => some (.int k n)
  | .t (.bool b) => some (.bool b)
  | .t (.str s) => some (.str s)
  | _ => none
def zeroT : C → T
  | .t x => x
  | _ => .lst []

/-- The parts of a struct literal, laid over its zero cells. -/
def fillC (E : Nat → Option TI) (offs : List (Nat × Nat)) (vl : Operand → Option AV) : List (Nat × Operand) → List C → Option (List C)
  | [], zs => some zs
  | (i, x) :: r, zs => match offs[i]?, vl x with
    | some (off, ty), some v => match cellsOf v, E ty with
      | some cs, some ti => bif (Nat.beq cs.length ti.size && Nat.ble (off + cs.length) zs.length) then fillC E offs vl r (zs.take off ++ cs ++ zs.drop (off + cs.length)) else none
      | _, _ => none
    | _, _ => none
/-- The parts of a slice literal: rows 0, 1, .. in order, each of 'sz' cells. -/
def rowsC (sz : Nat) (vl : Operand → Option AV) : Nat → List (Nat × Operand) → Option (List (List C))
  | _, [] => some []
  | k, (i, x) :: r => bif Nat.beq i k then (match vl x with
      | some v => match cellsOf v with
        | some cs => bif Nat.beq cs.length sz then (match rowsC sz vl (k + 1) r with | some rs => some (cs :: rs) | none => none) else none
        | none => none
      | none => none) else none

def loadT (ti : TI) (cells : List T) (off : Nat) (K : AV → Prop) : Prop :=
  scase ti.agg (((cells.drop off).take ti.size).length = ti.size ∧ K (.agg (((cells.drop off).take ti.size).map C.t))) (need (cells[off]?) fun x => K (.c (.t x)))
def loadC (ti : TI) (cells : List C) (off : Nat) (K : AV → Prop) : Prop :=
  scase ti.agg (((cells.drop off).take ti.size).length = ti.size ∧ K (.agg ((cells.drop off).take ti.size))) (need (cells[off]?) fun x => K (.c x))

def callee (vl : Operand → Option AV) (O : List (Nat × Ob)) (x : Operand) : Option (FuncId × List V) :=
  match vl x with
  | some (.c (.fn f ids)) => match mapO (boxT O) ids with | some bs => some (f, bs.map V.one) | none => none
  | some (.c (.t (.fn f caps))) => some (f, caps.map V.one)
  | _ => none

/-- The operations that read memory or make new objects. -/
def opB (P : Program) (E : Nat → Option TI) (vl : Operand → Option AV) (op : Op) (σ : St) (K : AV → St → Prop) : Prop :=
  match op with
  | .alloc t => need (E t) fun ti => K (.ptr σ.next 0) (σ.new (.box ti.zero))
  | .box _ x => need (vl x) fun v => need (cellsOf v) fun cs => K (.ptr σ.next 0) (σ.new (.box cs))
  | .build t parts => need (E t) fun ti => match ti.k with
    | .st offs => need (fillC E offs vl parts.toList ti.zero) fun cs => K (.agg cs) σ
    | _ => False
  | .buildSlice t len parts => need (E t) fun ti => match ti.k with
    | .sl e => need (E e) fun te => need (rowsC te.size vl 0 parts.toList) fun rows => (rows.length = len ∧ len * te.size ≤ 16777216 ∧ len ≤ 16777216) ∧
      match mapO (mapO scalT) rows with
      | some trows => K (.c (.ref σ.next)) (σ.new (.row true true te.size trows))
      | none => K (.c (.ref σ.next)) (σ.new (.tmp te.size rows))
    | _ => False
  | .load t a => need (E t) fun ti => need (vl a) fun
    | .ptr id off => need (get σ.objs id) fun
      | .box cs => loadC ti cs off (K · σ)
      | _ => False
    | .iptr id sz i off => need (get σ.objs id) fun
      | .row _ _ sz' rows => sz = sz' ∧ ∃ cs, rows[i]? = some cs ∧ loadT ti cs off (K · σ)
      | .tmp sz' rows => sz = sz' ∧ ∃ cs, rows[i]? = some cs ∧ loadC ti cs off (K · σ)
      | _ => False
    | .sptr cells off => loadT ti cells off (K · σ)
    | .c (.t (.box cells)) => loadT ti cells 0 (K · σ)
    | _ => False
  | .makeSlice t l c => need (E t) fun ti => match ti.k with
    | .sl e => need (E e) fun te => need (vl l) fun
      | .c (.t (.int _ n)) => need (vl c) fun
        | .c (.t (.int _ n')) => ∃ m : Nat, (n = m ∧ n' = m) ∧ (m * te.bytes ≤ 140737488355328 ∧ m ≤ 140737488355328) ∧
            K (.c (.ref σ.next)) (σ.new (.row true true te.size (List.replicate m (te.zero.map zeroT))))
        | _ => False
      | _ => False
    | _ => False
  | .indexAddr t x i => need (E t) fun ti => match ti.k with
    | .sl e => need (E e) fun te => need (vl i) fun
      | .c (.t (.int _ n)) => need (vl x) fun
        | .c (.ref id) => need (get σ.objs id) fun
          | .row _ _ sz rows => te.size = sz ∧ ∃ j : Nat, n = j ∧ j < rows.length ∧ K (.iptr id sz j 0) σ
          | .tmp sz rows => te.size = sz ∧ ∃ j : Nat, n = j ∧ j < rows.length ∧ K (.iptr id sz j 0) σ
          | _ => False
        | .c (.t (.lst rows)) => ∃ (j : Nat) (cs : List T), n = j ∧ rows[j]? = some cs ∧ cs.length = te.size ∧ K (.sptr cs 0) σ
        | .c (.view id sz lo hi) => te.size = sz ∧ ∃ j : Nat, n = j ∧ j < hi - lo ∧ K (.iptr id sz (lo + j) 0) σ
        | _ => False
      | _ => False
    | _ => False
  | .slice t x lo hi none => need (E t) fun ti => match ti.k with
    | .sl e => need (E e) fun te => need (vl x) fun
      | .c (.t (.lst rows)) =>
        ∃ l h : Nat, (match lo with | some y => vl y = some (vint .i64 l) | none => l = 0) ∧ (match hi with | some y => vl y = some (vint .i64 h) | none => h = rows.length) ∧
          (l ≤ h ∧ h ≤ rows.length) ∧ (∀ r ∈ rows, r.length = te.size) ∧ K (.c (.t (.lst ((rows.take h).drop l)))) σ
      | .c (.ref id) => need (get σ.objs id) fun
        | .row _ _ sz rows => te.size = sz ∧
          ∃ l h : Nat, (match lo with | some y => vl y = some (vint .i64 l) | none => l = 0) ∧ (match hi with | some y => vl y = some (vint .i64 h) | none => h = rows.length) ∧
            (l ≤ h ∧ h ≤ rows.length) ∧ K (.c (.view id sz l h)) σ
        | _ => False
      | _ => False
    | _ => False
  | .slice t x none (some h) (some m) => need (E t) fun ti => match ti.k with
    | .sl e => need (E e) fun _ => need (vl x) fun v => (vl h = some (vint .i64 0) ∧ vl m = some (vint .i64 0)) ∧
      match v with
      | .c (.t (.lst _)) => K (.c .nil0) σ
      | .c .nil => K (.c .nil0) σ
      | .c (.ref id) => need (get σ.objs id) fun
        | .row .. => K (.c .nil0) σ
        | _ => False
      | _ => False
    | _ => False
  | .convert s d x => need (E s) fun ts => match ts.k with
    | .sl e => need (E e) fun te => need (E d) fun td => (te.k = .int .u8 ∧ td.k = .str) ∧ need (vl x) fun v => need (argV σ.objs v) fun
      | .one (.lst rows) => ∃ bs : List UInt8, rows = bs.map (fun b => [T.int .u8 (b.toNat : Int)]) ∧ K (.c (.t (.str ⟨bs.toArray⟩))) σ
      | _ => False
    | _ => opA E vl (.convert s d x) (fun v => K v σ)
  | .call { callee := .builtin .len, args, argTypes } => match args.toList, argTypes.toList with
    | [x], [t] => need (E t) fun ti => match ti.k with
      | .sl _ => need (vl x) fun
        | .c .nil => K (vint .i64 0) σ
        | .c .nil0 => K (vint .i64 0) σ
        | .c (.t (.lst rows)) => K (vint .i64 (rows.length : Nat)) σ
        | .c (.view _ _ lo hi) => K (vint .i64 ((hi - lo : Nat) : Int)) σ
        | .c (.ref id) => need (get σ.objs id) fun
          | .row _ _ _ rows => K (vint .i64 (rows.length : Nat)) σ
          | .tmp _ rows => K (vint .i64 (rows.length : Nat)) σ
          | _ => False
        | _ => False
      | _ => False
    | _, _ => False
  | .call { callee := .value f, args, argTypes := _ } => need (callee vl σ.objs f) fun fe => need (vals vl args.toList) fun avs => need (mapO (argV σ.objs) avs) fun as =>
      ∃ rs, FnAt P fe.1 (as ++ fe.2) rs ∧ K (impR σ rs).1 (impR σ rs).2
  | _ => False

/-- What a run of such an operation gives, over whatever objects 'O' that hold those of σ' (more may be laid already). -/
def GoesB (P : Program) (vl : Operand → Option AV) (o : Oper) (σ σ' : St) (av : AV) : Prop :=
  ∀ (w0 : Base) O G w a (Kc : Act → World → Prop) (Q : Exit → Act → World → Prop), (∀ id ob, get σ'.objs id = some ob → get O id = some ob) → Mem w0 O G w → OpsRep vl o.op O G w a →
    (∀ j, σ.next ≤ j → j < σ'.next → ¬ G.A j) →
    (∀ G' v w', Mem w0 O G' w' → Pres O G w O G' w' → av.rep O G' w' v → (∀ j, G'.A j → G.A j ∨ (σ.next ≤ j ∧ j < σ'.next)) → Kc (a.put o.dst v) w') → o.wp P a w Kc Q

theorem wp_value {P : Program} {o : Oper} {a : Act} {w w' : World} {v : Value} {Kc : Act → World → Prop} {Q : Exit → Act → World → Prop}
    (h : (execOp a.eval o).run P w = .ok (.value v) w') (hk : Kc (a.put o.dst v) w') : o.wp P a w Kc Q := by
  unfold Oper.wp
  rw [h]
  exact hk

section
variable {P : Program} {E : Nat → Option TI} {O : List (Nat × Ob)} {G : Gh} {w : World} {w0 : Base}

theorem run_loadVar {t : Nat} {ti : TI} (hE : TIok P t ti) (ad : Addr) (w : World) (cs : List Value) (hc : ∀ (j : Nat) u, cs[j]? = some u → w.cell? (ad.add j) = some u) :
    (ti.agg = true → cs.length = ti.size → (loadVar t ad).run P w = .ok (.agg cs.toArray) w) ∧ (ti.agg = false → ∀ u, cs[0]? = some u → (loadVar t ad).run P w = .ok u w) := by
  obtain ⟨i, z, hi, hs, _⟩ := hE.info
  obtain ⟨d, hd, hag, _⟩ := hE.desc
  have hisagg : (isAgg t).run P w = .ok ti.agg w := by
    unfold isAgg
    rw [Sem.run_bind, run_underlying hd, ← hag]
    cases d <;> rfl
  refine ⟨fun ha hl => ?_, fun ha u hu => ?_⟩
  · have hr := run_loadCells_list (P := P) w ad cs hc
    unfold loadVar
    rw [Sem.run_bind, hisagg, ha]
    rw [hl, ← hs] at hr
    simp [sizeOf, typeInfo, hi, hr]
  · have h0 := hc 0 u hu
    rw [addr_add0] at h0
    unfold loadVar
    rw [Sem.run_bind, hisagg, ha]
    simp [run_load, h0]

theorem drop_get {α : Type} {xs : List α} {off j : Nat} {u : α} (h : (xs.drop off)[j]? = some u) : xs[off + j]? = some u := by rw [← h, List.getElem?_drop]

theorem loadT_sound {t : Nat} {ti : TI} (hE : TIok P t ti) {cells : List T} {off : Nat} {K : AV → Prop} (h : loadT ti cells off K) :
    ∃ av, K av ∧ ∀ O G w (ad : Addr) cs F, repCells w cells cs F → Imm O G F → (∀ (j : Nat) u, cs[j]? = some u → w.cell? (ad.add j) = some u) →
      ∃ v, (loadVar t (ad.add off)).run P w = .ok v w ∧ av.rep O G w v := by
  unfold loadT at h
  rcases scase_out h with ⟨ha, hl, h⟩ | ⟨ha, h⟩
  · refine ⟨_, h, fun O G w ad cs F hr him hc => ?_⟩
    obtain ⟨F', h1, h2⟩ := repCells_drop off hr
    have h3 : repCs O G w (((cells.drop off).take ti.size).map C.t) ((cs.drop off).take ti.size) := by
      rw [List.map_take]
      exact repCs_take ti.size (repCs_t h1 (him.sub h2))
    have hlen : ((cs.drop off).take ti.size).length = ti.size := by
      have := repCs_length h3
      rw [List.length_map] at this
      rw [this]; exact hl
    have hrun := (run_loadVar hE (ad.add off) w ((cs.drop off).take ti.size) (fun j u hu => ?_)).1 ha hlen
    · exact ⟨_, hrun, by simp only [AV.rep]; exact ⟨_, rfl, h3⟩⟩
    · rw [add_of_add]
      have hj : j < ti.size := by have := (List.getElem?_eq_some_iff.1 hu).1; omega
      rw [List.getElem?_take_of_lt hj] at hu
      exact hc _ u (drop_get hu)
  · obtain ⟨x, e, h⟩ := need_some h
    refine ⟨_, h, fun O G w ad cs F hr him hc => ?_⟩
    obtain ⟨v, F1, h1, h2, h3⟩ := repCells_get hr off x e
    have hrun := (run_loadVar hE (ad.add off) w [v] (fun j u hu => ?_)).2 ha v rfl
    · exact ⟨v, hrun, F1, h2, him.sub h3⟩
    · have hj : j = 0 := by have := (List.getElem?_eq_some_iff.1 hu).1; simpa using this
      subst hj
      simp at hu
      subst hu
      rw [addr_add0]
      exact hc off _ h1

theorem loadC_sound {t : Nat} {ti : TI} (hE : TIok P t ti) {cells : List C} {off : Nat} {K : AV → Prop} (h : loadC ti cells off K) :
    ∃ av, K av ∧ ∀ O G w (ad : Addr) cs, repCs O G w cells cs → (∀ (j : Nat) u, cs[j]? = some u → w.cell? (ad.add j) = some u) →
      ∃ v, (loadVar t (ad.add off)).run P w = .ok v w ∧ av.rep O G w v := by
  unfold loadC at h
  rcases scase_out h with ⟨ha, hl, h⟩ | ⟨ha, h⟩
  · refine ⟨_, h, fun O G w ad cs hr hc => ?_⟩
    have h3 : repCs O G w ((cells.drop off).take ti.size) ((cs.drop off).take ti.size) := repCs_take ti.size (repCs_drop off hr)
    have hlen : ((cs.drop off).take ti.size).length = ti.size := by rw [repCs_length h3]; exact hl
    have hrun := (run_loadVar hE (ad.add off) w ((cs.drop off).take ti.size) (fun j u hu => ?_)).1 ha hlen
    · exact ⟨_, hrun, by simp only [AV.rep]; exact ⟨_, rfl, h3⟩⟩
    · rw [add_of_add]
      have hj : j < ti.size := by have := (List.getElem?_eq_some_iff.1 hu).1; omega
      rw [List.getElem?_take_of_lt hj] at hu
      exact hc _ u (drop_get hu)
  · obtain ⟨x, e, h⟩ := need_some h
    refine ⟨_, h, fun O G w ad cs hr hc => ?_⟩
    obtain ⟨v, h1, h2⟩ := repCs_get hr e
    have hrun := (run_loadVar hE (ad.add off) w [v] (fun j u hu => ?_)).2 ha v rfl
    · exact ⟨v, hrun, h2⟩
    · have hj : j = 0 := by have := (List.getElem?_eq_some_iff.1 hu).1; simpa using this
      subst hj
      simp at hu
      subst hu
      rw [addr_add0]
      exact hc off _ h1

theorem lit_add (g j : Nat) : ((⟨g, 0, none⟩ : Addr).add j) = ⟨g, j, none⟩ := by unfold Addr.add; split <;> simp_all
theorem box_cells {g : Nat} {vs : List Value} {e : TypeId} (h : w.heap[g]? = some (.cells (List.toArray vs) e (0, 0))) : ∀ (j : Nat) u, vs[j]? = some u → w.cell? ((⟨g, 0, none⟩ : Addr).add j) = some u := fun j u hu => by
  rw [lit_add]
  simp only [World.cell?, h]
  simpa using hu

theorem newBlock (w : World) (cs : Array Value) (e : TypeId) : Below w.heap.size w (w.alloc (.cells cs e)) ∧ (w.alloc (.cells cs e)).heap[w.heap.size]? = some (.cells cs e (0, 0)) :=
  ⟨(Below.refl _ _).alloc (Nat.le_refl _) _, Go.heap_alloc_new w _⟩

/-- A new box. -/
theorem newBox_goes {vl : Operand → Option AV} {o : Oper} {σ : St} {cs : List C} (_hw : σ.wf)
    (hrun : ∀ O G w a, OpsRep vl o.op O G w a → ∃ vs e, repCs O G w cs vs ∧ (execOp a.eval o).run P w = .ok (.value (.pointer (some ⟨w.heap.size, 0, none⟩))) (w.alloc (.cells (List.toArray vs) e))) :
    GoesB P vl o σ (σ.new (.box cs)) (.ptr σ.next 0) := by
  intro w0 O G w a Kc Q hsub hM hops hfr hK
  obtain ⟨vs, e, hvs, hr⟩ := hrun O G w a hops
  obtain ⟨hb, hn⟩ := newBlock w (List.toArray vs) e
  have hOn : get O σ.next = some (.box cs) := hsub _ _ (σ.new_get _)
  obtain ⟨hφ, hΦ, hA⟩ := Gh.add_new (G := G) σ.next (.pointer (some ⟨w.heap.size, 0, none⟩)) [w.heap.size]
  obtain ⟨hM', hp⟩ := hM.new1 (w' := w.alloc (.cells (List.toArray vs) e)) σ.next (.pointer (some ⟨w.heap.size, 0, none⟩)) [w.heap.size] (hfr _ (Nat.le_refl _) (by simp [St.new])) hb (by simp)
    (by simp only [List.mem_singleton, forall_eq]; exact ⟨Nat.le_refl _, _, _, hn⟩) (by simp [hd]) (fun ob hob p => by
      rw [hOn] at hob
      injection hob with hob
      subst hob
      exact ⟨w.heap.size, vs, e, hφ, hn, repCs_pres p cs vs hvs, hΦ, hA.2⟩)
  refine wp_value hr (hK _ _ _ hM' hp ?_ (fun j hj => ?_))
  · simp only [AV.rep]
    exact ⟨hA.1, ⟨w.heap.size, 0, none⟩, hφ, by rw [addr_add0]⟩
  · rcases Gh.add_A hj with h | h
    · exact .inl h
    · exact .inr (by subst h; simp [St.new])
end
end Go.Vm

namespace Go.Vm
open Go.RowKit

section
variable {P : Program} {E : Nat → Option TI} {vl : Operand → Option AV} {o : Oper} {σ : St} {av : AV}

theorem quiet_goes
    (hrun : ∀ (w0 : Base) O G w a, (∀ id ob, get σ.objs id = some ob → get O id = some ob) → Mem w0 O G w → OpsRep vl o.op O G w a → ∃ v, (execOp a.eval o).run P w = .ok (.value v) w ∧ av.rep O G w v) :
    GoesB P vl o σ σ av := by
  intro w0 O G w a Kc Q hsub hM hops _ hK
  obtain ⟨v, h1, h2⟩ := hrun w0 O G w a hsub hM hops
  exact wp_value h1 (hK G v w hM Pres.refl h2 (fun j hj => .inl hj))

theorem newRow_goes {ob : Ob} (hw : σ.wf)
    (hrun : ∀ (w0 : Base) O G w a, (∀ id ob, get σ.objs id = some ob → get O id = some ob) → Mem w0 O G w → OpsRep vl o.op O G w a →
      ∃ (arr : Array Value) (e : TypeId) (n c : Nat), (execOp a.eval o).run P w = .ok (.value (.slice (some ⟨w.heap.size, 0, none⟩) n c)) (w.alloc (.cells arr e)) ∧
        ∀ G' : Gh, G'.φ σ.next = .slice (some ⟨w.heap.size, 0, none⟩) n c → (G'.Φ σ.next = hd (.slice (some ⟨w.heap.size, 0, none⟩) n c) ∧ G'.h σ.next = hd (.slice (some ⟨w.heap.size, 0, none⟩) n c)) → Pres O G w O G' (w.alloc (.cells arr e)) → ob.rep O G' (w.alloc (.cells arr e)) σ.next) :
    GoesB P vl o σ (σ.new ob) (.c (.ref σ.next)) := by
  intro w0 O G w a Kc Q hsub hM hops hfr hK
  have hsub0 : ∀ id ob, get σ.objs id = some ob → get O id = some ob := fun id ob h => hsub id ob (by rw [(σ.ext_new _).objs id (hw id ob h)]; exact h)
  obtain ⟨arr, e, n, c, h1, h2⟩ := hrun w0 O G w a hsub0 hM hops
  obtain ⟨hb, hn⟩ := newBlock w arr e
  have hOn : get O σ.next = some ob := hsub _ _ (σ.new_get _)
  obtain ⟨hφ, hΦ, hA⟩ := Gh.add_new (G := G) σ.next (.slice (some ⟨w.heap.size, 0, none⟩) n c) (hd (.slice (some ⟨w.heap.size, 0, none⟩) n c))
  have hhd : ∀ b ∈ hd (.slice (some ⟨w.heap.size, 0, none⟩) n c), b = w.heap.size := by
    intro b hb
    cases c with
    | zero => simp [hd] at hb
    | succ c => simpa [hd] using hb
  obtain ⟨hM', hp⟩ := hM.new1 (w' := w.alloc (.cells arr e)) σ.next (.slice (some ⟨w.heap.size, 0, none⟩) n c) (hd (.slice (some ⟨w.heap.size, 0, none⟩) n c)) (hfr _ (Nat.le_refl _) (by simp [St.new])) hb
    (by cases c <;> simp [hd]) (fun b hbb => by rw [hhd b hbb]; exact ⟨Nat.le_refl _, _, _, hn⟩) (fun b hb => hb) (fun x hx p => by
      rw [hOn] at hx
      injection hx with hx
      subst hx
      exact h2 _ hφ ⟨hΦ, hA.2⟩ p)
  refine wp_value h1 (hK _ _ _ hM' hp ?_ (fun j hj => ?_))
  · simp only [AV.rep]
    exact ⟨hA.1, hφ.symm, one_slice _ _ _⟩
  · rcases Gh.add_A hj with h | h
    · exact .inl h
    · exact .inr (by subst h; simp [St.new])
end

/-! ### Literals -/
theorem splice_fold : ∀ (vs : List Value) (k off : Nat) (cells : Array Value), off + k + vs.length ≤ cells.size →
    ((vs.zipIdx k).foldl (fun cs (p : Value × Nat) => cs.setIfInBounds (off + p.2) p.1) cells).toList = cells.toList.take (off + k) ++ vs ++ cells.toList.drop (off + k + vs.length)
  | [], k, off, cells, h => by simp
  | v :: vs, k, off, cells, h => by
    simp only [List.length_cons] at h
    have hlt : off + k < cells.toList.length := by simp; omega
    have hs : (cells.setIfInBounds (off + k) v).toList = cells.toList.take (off + k) ++ v :: cells.toList.drop (off + k + 1) := by
      rw [Array.toList_setIfInBounds, List.set_eq_take_append_cons_drop, if_pos hlt]
    simp only [List.zipIdx_cons, List.foldl_cons]
    rw [splice_fold vs (k + 1) off _ (by simp; omega), hs]
    have h1 : (cells.toList.take (off + k)).length = off + k := by simp; omega
    have e1 : List.take (off + (k + 1)) (cells.toList.take (off + k) ++ v :: cells.toList.drop (off + k + 1)) = cells.toList.take (off + k) ++ [v] := by
      rw [List.take_append, h1, show off + (k + 1) - (off + k) = 1 by omega, List.take_of_length_le (by omega)]
      rfl
    have e2 : List.drop (off + (k + 1) + vs.length) (cells.toList.take (off + k) ++ v :: cells.toList.drop (off + k + 1)) = cells.toList.drop (off + k + (vs.length + 1)) := by
      rw [List.drop_append, h1, show off + (k + 1) + vs.length - (off + k) = vs.length + 1 by omega, List.drop_of_length_le (by omega), List.nil_append, List.drop_succ_cons, List.drop_drop]
      congr 1
      omega
    rw [e1, e2]
    simp

theorem fold_cells (cells : Array Value) (v : Value) (off : Nat) (h : off + v.cells.size ≤ cells.size) :
    (v.cells.zipIdx.foldl (fun cs (p : Value × Nat) => cs.setIfInBounds (off + p.2) p.1) cells).toList = cells.toList.take off ++ v.cells.toList ++ cells.toList.drop (off + v.cells.size) := by
  rw [← Array.foldl_toList, Array.toList_zipIdx]
  have := splice_fold v.cells.toList 0 off cells (by simpa using h)
  simpa using this

section
variable {P : Program} {E : Nat → Option TI} {O : List (Nat × Ob)} {G : Gh} {w : World} {w0 : Base}

theorem T.rep_one {x : T} {v : Value} {F : List Nat} (h : x.rep w v F) : one v := by
  cases x <;> simp only [T.rep] at h
  · rw [h.1]; exact ⟨rfl, rfl⟩
  · rw [h.1]; exact ⟨rfl, rfl⟩
  · rw [h.1]; exact ⟨rfl, rfl⟩
  · obtain ⟨A, c, rfl, _⟩ := h; exact ⟨rfl, rfl⟩
  · obtain ⟨ad, cs, F', rfl, _⟩ := h; exact ⟨rfl, rfl⟩
  · obtain ⟨vs, rfl, _⟩ := h; exact ⟨rfl, rfl⟩
  · obtain ⟨⟨rfl, h1, h2⟩, _⟩ := h; exact ⟨h1, h2⟩
theorem C.rep_one {x : C} {v : Value} (h : x.rep O G w v) : one v := by
  cases x with
  | nil => have h' : v = .slice none 0 0 := h; subst h'; exact ⟨rfl, rfl⟩
  | nil0 => obtain ⟨A, rfl⟩ := h; exact ⟨rfl, rfl⟩
  | t x => obtain ⟨F, h, _⟩ := h; exact T.rep_one h
  | anc x => obtain ⟨F, h, _⟩ := h; exact T.rep_one h
  | ref id => exact h.2.2
  | fn f ids => obtain ⟨h, _⟩ := h; rw [h]; exact ⟨rfl, rfl⟩
  | view id sz lo hi => obtain ⟨_, _, A, c, h, _⟩ := h; rw [h]; exact ⟨rfl, rfl⟩
theorem repCs_one : ∀ {xs : List C} {vs : List Value}, repCs O G w xs vs → ∀ v ∈ vs, v.oneCell' = true
  | [], vs, h, v, hv => by simp only [repCs] at h; subst h; simp at hv
  | x :: xs, _, ⟨u, vs', h1, h2, h3⟩, v, hv => by
    subst h1
    rcases List.mem_cons.1 hv with rfl | hv
    · exact (C.rep_one h2).1
    · exact repCs_one h3 v hv
theorem repCells_one : ∀ {xs : List T} {vs : List Value} {F : List Nat}, repCells w xs vs F → ∀ v ∈ vs, v.oneCell' = true
  | [], vs, F, h, v, hv => by simp only [repCells] at h; simp [h.1] at hv
  | x :: xs, _, F, h, v, hv => by
    simp only [repCells] at h
    obtain ⟨u, vs', F1, F2, h1, h4, h2, h3⟩ := h
    subst h1
    rcases List.mem_cons.1 hv with rfl | hv
    · exact (T.rep_one h2).1
    · exact repCells_one h3 v hv

theorem cellsOf_rep {v : AV} {cs : List C} {u : Value} (h : cellsOf v = some cs) (hr : v.rep O G w u) : ∃ vs, u.cells = List.toArray vs ∧ repCs O G w cs vs := by
  unfold cellsOf at h
  split at h
  · injection h with h
    subst h
    simp only [AV.rep] at hr
    exact ⟨[u], (C.rep_one hr).2, u, [], rfl, hr, rfl⟩
  · injection h with h
    subst h
    simp only [AV.rep] at hr
    obtain ⟨vs, rfl, h2⟩ := hr
    exact ⟨vs, rfl, h2⟩
  · cases h

/-- The parts of a struct literal: what 'fill' makes of them. -/
theorem fillC_rep (hE : TOk P E) {offs : List (Nat × Nat)} {vl : Operand → Option AV} {a : Act} (places : Nat → Option (Nat × Nat)) (hpl : ∀ (i off ty : Nat), offs[i]? = some (off, ty) → ∀ ti, E ty = some ti → places i = some (off, ti.size)) :
    ∀ {parts : List (Nat × Operand)} {zs cs : List C} {us : List Value}, fillC E offs vl parts zs = some cs → (∀ p ∈ parts, ∀ v, vl p.2 = some v → v.rep O G w (a.eval p.2)) → repCs O G w zs us →
      ∃ vs, Instr.fill places us.toArray (parts.map fun p => (p.1, a.eval p.2)) = some vs.toArray ∧ repCs O G w cs vs
  | [], zs, cs, us, h, _, hz => by
    simp only [fillC, Option.some.injEq] at h
    subst h
    exact ⟨us, rfl, hz⟩
  | (i, x) :: r, zs, cs, us, h, hr, hz => by
    simp only [fillC] at h
    split at h
    · rename_i off ty v e1 e2
      split at h
      · rename_i cs1 ti e3 e4
        cases hb : (Nat.beq cs1.length ti.size && Nat.ble (off + cs1.length) zs.length) with
        | false => simp [hb] at h
        | true =>
          simp only [hb, cond_true] at h
          simp only [Bool.and_eq_true] at hb
          have hb1 : cs1.length = ti.size := Nat.eq_of_beq_eq_true hb.1
          have hb2 : off + cs1.length ≤ zs.length := Nat.le_of_ble_eq_true hb.2
          obtain ⟨vs1, hv1, hv2⟩ := cellsOf_rep e3 (hr (i, x) (by simp) v e2)
          have hl := repCs_length hv2
          have hlz := repCs_length hz
          have hsz : (a.eval x).cells.size = vs1.length := by rw [hv1]; simp
          have hnew : repCs O G w (zs.take off ++ cs1 ++ zs.drop (off + cs1.length)) (us.take off ++ vs1 ++ us.drop (off + vs1.length)) := by
            rw [hl]
            exact repCs_append (repCs_append (repCs_take off hz) hv2) (repCs_drop _ hz)
          obtain ⟨vs, h1, h2⟩ := fillC_rep hE places hpl h (fun p hp => hr p (by simp [hp])) hnew
          refine ⟨vs, ?_, h2⟩
          rw [← h1]
          simp only [List.map_cons, Instr.fill, hpl i off ty e1 ti e4]
          rw [if_neg (by rw [hsz]; simp; omega)]
          congr 1
          have hf := fold_cells us.toArray (a.eval x) off (by rw [hsz]; simp; omega)
          rw [hv1] at hf ⊢
          apply Array.ext'
          rw [hf]
          simp
      · cases h
    · cases h

theorem rowsC_rep {sz : Nat} {vl : Operand → Option AV} {a : Act} : ∀ {parts : List (Nat × Operand)} {k : Nat} {rows : List (List C)}, rowsC sz vl k parts = some rows → (∀ p ∈ parts, ∀ v, vl p.2 = some v → v.rep O G w (a.eval p.2)) →
    ∃ css, repCss O G w rows css ∧ (∀ cs ∈ css, cs.length = sz) ∧ rows.length = parts.length ∧ css.length = parts.length ∧
      ∀ (cells : Array Value), (k + parts.length) * sz ≤ cells.size →
        ∃ cells', Instr.fill (fun i => some (i * sz, sz)) cells (parts.map fun p => (p.1, a.eval p.2)) = some cells' ∧ cells'.toList = cells.toList.take (k * sz) ++ css.flatten ++ cells.toList.drop ((k + parts.length) * sz)
  | [], k, rows, h, _ => by
    simp only [rowsC, Option.some.injEq] at h
    subst h
    exact ⟨[], rfl, by simp, rfl, rfl, fun cells _ => ⟨cells, rfl, by simp⟩⟩
  | (i, x) :: r, k, rows, h, hr => by
    simp only [rowsC] at h
    cases hik : Nat.beq i k with
    | false => simp [hik] at h
    | true =>
      have hik' : i = k := Nat.eq_of_beq_eq_true hik
      simp only [hik, cond_true] at h
      split at h
      · rename_i v ev
        split at h
        · rename_i cs1 e1
          cases hb : Nat.beq cs1.length sz with
          | false => simp [hb] at h
          | true =>
            have hb' : cs1.length = sz := Nat.eq_of_beq_eq_true hb
            simp only [hb, cond_true] at h
            split at h
            · rename_i rs e2
              injection h with h
              subst h
              obtain ⟨vs1, hv1, hv2⟩ := cellsOf_rep e1 (hr (i, x) (by simp) v ev)
              have hl : vs1.length = sz := by rw [repCs_length hv2, hb']
              obtain ⟨css, h1, h2, h3, h4, h5⟩ := rowsC_rep e2 (fun p hp => hr p (by simp [hp]))
              have hsz : (a.eval x).cells.size = sz := by rw [hv1]; simp [hl]
              refine ⟨vs1 :: css, ⟨vs1, css, rfl, hv2, h1⟩, ?_, by simp [h3], by simp [h4], fun cells hc => ?_⟩
              · intro cs hcs
                rcases List.mem_cons.1 hcs with rfl | hcs
                · exact hl
                · exact h2 cs hcs
              · simp only [List.length_cons] at hc
                have hk1 : k * sz + sz ≤ cells.size := by
                  have : (k + 1) * sz ≤ (k + (r.length + 1)) * sz := Nat.mul_le_mul_right _ (by omega)
                  rw [Nat.add_mul, Nat.one_mul] at this
                  omega
                have hf := fold_cells cells (a.eval x) (k * sz) (by rw [hsz]; exact hk1)
                generalize hg : (a.eval x).cells.zipIdx.foldl (fun cs (p : Value × Nat) => cs.setIfInBounds (k * sz + p.2) p.1) cells = c1 at hf
                have hc1 : c1.size = cells.size := by
                  rw [← Array.length_toList, hf, hsz, hv1]
                  simp [hl]
                  omega
                obtain ⟨cells', h6, h7⟩ := h5 c1 (by rw [hc1]; have e : k + 1 + r.length = k + (r.length + 1) := by omega
                                                     rw [e]; exact hc)
                refine ⟨cells', ?_, ?_⟩
                · simp only [List.map_cons, Instr.fill, hik']
                  rw [if_neg (by rw [hsz]; simp; omega)]
                  rw [← h6, ← hg]
                · rw [h7, hf, hsz, hv1]
                  simp only [List.flatten_cons]
                  have ht : (cells.toList.take (k * sz)).length = k * sz := by simp; omega
                  have e1 : List.take ((k + 1) * sz) (List.take (k * sz) cells.toList ++ vs1 ++ List.drop (k * sz + sz) cells.toList) = List.take (k * sz) cells.toList ++ vs1 := by
                    rw [List.take_append_of_le_length (by simp [hl, Nat.add_mul]; omega)]
                    rw [List.take_of_length_le (by simp [hl, Nat.add_mul]; omega)]
                  have e2 : List.drop ((k + 1 + r.length) * sz) (List.take (k * sz) cells.toList ++ vs1 ++ List.drop (k * sz + sz) cells.toList) = List.drop ((k + (r.length + 1)) * sz) cells.toList := by
                    have e3 : (k + 1 + r.length) * sz = k * sz + sz + r.length * sz := by simp [Nat.add_mul]
                    have e4 : (k + (r.length + 1)) * sz = k * sz + sz + r.length * sz := by simp [Nat.add_mul]; omega
                    rw [List.drop_append, e3, e4, List.drop_of_length_le (by simp [hl]; omega), List.nil_append, List.length_append, ht, hl, List.drop_drop]
                    congr 1
                    omega
                  simp only [List.length_cons]
                  rw [e1, e2]
                  simp
            · cases h
        · cases h
      · cases h
end
end Go.Vm

namespace Go.Vm
open Go.RowKit

section
variable {P : Program} {E : Nat → Option TI} {O : List (Nat × Ob)} {G : Gh} {w : World} {w0 : Base}

theorem scal_rep {x : C} {y : T} {v : Value} (h : scalT x = some y) (hr : x.rep O G w v) : y.rep w v [] := by
  unfold scalT at h
  split at h
  · injection h with h; subst h; obtain ⟨F, ⟨h1, h2⟩, _⟩ := hr; exact ⟨h1, rfl⟩
  · injection h with h; subst h; obtain ⟨F, ⟨h1, h2⟩, _⟩ := hr; exact ⟨h1, rfl⟩
  · injection h with h; subst h; obtain ⟨F, ⟨h1, h2⟩, _⟩ := hr; exact ⟨h1, rfl⟩
  · cases h
theorem scals_rep : ∀ {xs : List C} {ys : List T} {vs : List Value}, mapO scalT xs = some ys → repCs O G w xs vs → repCells w ys vs []
  | [], ys, vs, h, hr => by simp only [mapO, Option.some.injEq] at h; subst h; simp only [repCells]; exact ⟨hr, trivial⟩
  | x :: xs, ys, vs, h, ⟨v, vs', h1, h2, h3⟩ => by
    simp only [mapO] at h
    split at h
    · rename_i y ys' e1 e2
      injection h with h
      subst h h1
      simp only [repCells]
      exact ⟨v, vs', [], [], rfl, rfl, scal_rep e1 h2, scals_rep e2 h3⟩
    · cases h
theorem scalss_rep : ∀ {xs : List (List C)} {ys : List (List T)} {vs : List (List Value)}, mapO (mapO scalT) xs = some ys → repCss O G w xs vs → repRows w ys vs [] ∧ ys.length = xs.length
  | [], ys, vs, h, hr => by simp only [mapO, Option.some.injEq] at h; subst h; simp only [repRows]; exact ⟨⟨hr, trivial⟩, rfl⟩
  | x :: xs, ys, vs, h, ⟨v, vs', h1, h2, h3⟩ => by
    simp only [mapO] at h
    split at h
    · rename_i y ys' e1 e2
      injection h with h
      subst h h1
      have := scalss_rep e2 h3
      simp only [repRows]
      exact ⟨⟨v, vs', [], [], rfl, rfl, scals_rep e1 h2, this.1⟩, by simp [this.2]⟩
    · cases h

theorem zeros_rep : ∀ {xs : List C}, xs.all C.isPlain = true → repCells w (xs.map zeroT) (xs.map C.plain) []
  | [], _ => by simp [repCells]
  | x :: xs, h => by
    simp only [List.all_cons, Bool.and_eq_true] at h
    simp only [List.map_cons, repCells]
    refine ⟨_, _, [], [], rfl, rfl, ?_, zeros_rep h.2⟩
    have h1 := h.1
    cases x with
    | nil => simp only [zeroT, C.plain, T.rep]; exact ⟨none, 0, rfl, Nat.le_refl _, .inl ⟨trivial, trivial⟩⟩
    | t x => cases x <;> simp [C.isPlain] at h1 <;> exact ⟨rfl, rfl⟩
    | nil0 => simp [C.isPlain] at h1
    | anc x => simp [C.isPlain] at h1
    | ref id => simp [C.isPlain] at h1
    | fn f ids => simp [C.isPlain] at h1
    | view id sz lo hi => simp [C.isPlain] at h1
theorem repRows_replicate {r : List T} {cs : List Value} (h : repCells w r cs []) : ∀ n, repRows w (List.replicate n r) (List.replicate n cs) []
  | 0 => by simp [repRows]
  | n + 1 => by simp only [List.replicate_succ, repRows]; exact ⟨cs, _, [], [], rfl, rfl, h, repRows_replicate h n⟩

theorem made_flat (z : Array Value) : ∀ m, (madeCells z (m * z.size)).toList = (List.replicate m z.toList).flatten
  | 0 => by simp [madeCells]
  | m + 1 => by
    have ih := made_flat z m
    have e : madeCells z ((m + 1) * z.size) = madeCells z (m * z.size) ++ z := by
      apply Array.ext
      · simp [madeCells, Nat.add_mul]
      · intro k h1 h2
        simp only [madeCells, Array.getElem_map, Array.getElem_range, Array.getElem_append]
        split
        · rfl
        · rename_i hk
          simp [madeCells] at hk h1
          have hk2 : k - m * z.size < z.size := by rw [Nat.add_mul] at h1; omega
          have hm : k % z.size = k - m * z.size := by
            have : k = k - m * z.size + m * z.size := by omega
            rw [this, Nat.add_mul_mod_self_right, Nat.mod_eq_of_lt (by omega)]
            omega
          simp [hm, hk2]
    rw [e, List.replicate_succ', List.flatten_append, Array.toList_append, ih]
    simp

theorem run_indexAt {t e : Nat} {i : TypeInfo} (ht : P.underlying t = some (.slice e)) (hi : P.info? e = some i) (a : Addr) (n c : Nat) (k : IntKind) (j : Nat) (hj : j < n) (w : World) :
    (Instr.indexAt t (.slice (some a) n c) (.int k (j : Int))).run P w = .ok (.pointer (some (a.add (j * i.size)))) w := by
  simp [Instr.indexAt, asIntOf, run_underlying ht, sizeOf, typeInfo, hi, hj]

theorem repCss_length : ∀ {xs : List (List C)} {vs : List (List Value)}, repCss O G w xs vs → vs.length = xs.length
  | [], vs, h => by simp only [repCss] at h; simp [h]
  | x :: xs, _, ⟨v, vs', h1, h2, h3⟩ => by subst h1; simp [repCss_length h3]
theorem repCss_get : ∀ {rs : List (List C)} {css : List (List Value)}, repCss O G w rs css → ∀ (i : Nat) r, rs[i]? = some r → ∃ cs, css[i]? = some cs ∧ repCs O G w r cs
  | [], _, _, i, r, hi => by simp at hi
  | x :: xs, _, ⟨v, vs', h1, h2, h3⟩, i, r, hi => by
    subst h1
    cases i with
    | zero => simp at hi; subst hi; exact ⟨v, by simp, h2⟩
    | succ i =>
      obtain ⟨cs, h4, h5⟩ := repCss_get h3 i r (by simpa using hi)
      exact ⟨cs, by simpa using h4, h5⟩

theorem Mem.tmp (hM : Mem w0 O G w) {id : Nat} {sz : Nat} {rows : List (List C)} (ha : G.A id) (hg : get O id = some (.tmp sz rows)) :
    ∃ css, repCss O G w rows css ∧ (∀ cs ∈ css, cs.length = sz) ∧ RowWeak w (G.φ id) rows.length sz css := by
  obtain ⟨css, h1, h2, h3, _⟩ := hM.obs id _ ha hg
  exact ⟨css, h1, h2, h3.weak h2⟩

theorem repRows_take : ∀ {rs : List (List T)} {css : List (List Value)} {F : List Nat} (n : Nat), repRows w rs css F → ∃ F', repRows w (rs.take n) (css.take n) F' ∧ ∀ b ∈ F', b ∈ F
  | [], css, F, n, h => by simp only [repRows] at h; obtain ⟨rfl, rfl⟩ := h; exact ⟨[], by simp [repRows], by simp⟩
  | y :: ys, css, F, n, h => by
    cases n with
    | zero => exact ⟨[], by simp [repRows], by simp⟩
    | succ n =>
      simp only [repRows] at h
      obtain ⟨v, cs', F1, F2, rfl, rfl, h3, h4⟩ := h
      obtain ⟨F', h5, h6⟩ := repRows_take n h4
      refine ⟨F1 ++ F', by simp only [List.take_succ_cons, repRows]; exact ⟨v, _, F1, F', rfl, rfl, h3, h5⟩, fun b hb => ?_⟩
      rcases List.mem_append.1 hb with hb | hb
      · simp [hb]
      · simp [h6 b hb]
theorem repRows_drop : ∀ {rs : List (List T)} {css : List (List Value)} {F : List Nat} (n : Nat), repRows w rs css F → ∃ F', repRows w (rs.drop n) (css.drop n) F' ∧ ∀ b ∈ F', b ∈ F
  | [], css, F, n, h => by simp only [repRows] at h; obtain ⟨rfl, rfl⟩ := h; exact ⟨[], by simp [repRows], by simp⟩
  | y :: ys, css, F, n, h => by
    cases n with
    | zero => exact ⟨F, by simpa using h, fun b hb => hb⟩
    | succ n =>
      simp only [repRows] at h
      obtain ⟨v, cs', F1, F2, rfl, rfl, h3, h4⟩ := h
      obtain ⟨F', h5, h6⟩ := repRows_drop n h4
      exact ⟨F', by simpa using h5, fun b hb => by simp [h6 b hb]⟩

theorem run_slice {t e : Nat} {i : TypeInfo} (ht : P.underlying t = some (.slice e)) (hi : P.info? e = some i) (A : Option Addr) (n c l h : Nat) (hl : l ≤ h) (hh : h ≤ n) (hc : n ≤ c) (w : World)
    (lo hi' : Option Value) (hlo : lo = some (.int .i64 (l : Int)) ∨ (lo = none ∧ l = 0)) (hhi : hi' = some (.int .i64 (h : Int)) ∨ (hi' = none ∧ h = n)) :
    (Instr.sliceAt t (.slice A n c) lo hi' none).run P w = .ok (.slice (if c = l then A else A.map (·.add (l * i.size))) (h - l) (c - l)) w := by
  have h1 : h ≤ c := by omega
  have h2 : (l : Int) ≤ h := by omega
  have h3 : (h : Int) ≤ c := by omega
  rcases hlo with rfl | ⟨rfl, rfl⟩ <;> rcases hhi with rfl | ⟨rfl, rfl⟩ <;>
    simp [Instr.sliceAt, Instr.slice, Instr.sliceBounds, Instr.sliceBound, asIntOf, run_underlying ht, sizeOf, typeInfo, hi, h1, hl, eq_comm]
end
end Go.Vm
