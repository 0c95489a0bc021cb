/-
  The abstract data of the program logic and their reading in a world: what a value of a slot reads as, by which blocks. No program in sight.
  Conditions: none.
-/
import Derived.WalkKit
namespace Go.Vm
open Go.RowKit

/-- What one machine cell reads as. -/
inductive T where
  | int (k : IntKind) (n : Int)
  | bool (b : Bool)
  | str (s : ByteArray)
  | lst (rows : List (List T))
  | box (cells : List T)
  | fn (f : FuncId) (caps : List T)

mutual
def T.rep (w : World) : T → Value → List Nat → Prop
  | .int k n, v, F => v = .int k n ∧ F = []
  | .bool b, v, F => v = .bool b ∧ F = []
  | .str s, v, F => v = .string s ∧ F = []
  | .lst rows, v, F => ∃ A c, v = .slice A rows.length c ∧ rows.length ≤ c ∧
      ((rows = [] ∧ F = []) ∨ ∃ ad css F' sz, rows ≠ [] ∧ A = some ad ∧ ad.block < w.heap.size ∧ F = ad.block :: F' ∧ repRows w rows css F' ∧
        ∀ (i : Nat) cs, css[i]? = some cs → cs.length = sz ∧ ∀ (j : Nat) u, cs[j]? = some u → w.cell? (ad.add (i * sz + j)) = some u)
  | .box cells, v, F => ∃ ad cs F', v = .pointer (some ad) ∧ ad.block < w.heap.size ∧ F = ad.block :: F' ∧ repCells w cells cs F' ∧ ∀ (j : Nat) u, cs[j]? = some u → w.cell? (ad.add j) = some u
  | .fn f caps, v, F => ∃ vs, v = .func (.func f) #[] (List.toArray vs) ∧ repCells w caps vs F
def repRows (w : World) : List (List T) → List (List Value) → List Nat → Prop
  | [], css, F => css = [] ∧ F = []
  | r :: rs, css, F => ∃ cs css' F1 F2, css = cs :: css' ∧ F = F1 ++ F2 ∧ repCells w r cs F1 ∧ repRows w rs css' F2
def repCells (w : World) : List T → List Value → List Nat → Prop
  | [], cs, F => cs = [] ∧ F = []
  | x :: xs, cs, F => ∃ v cs' F1 F2, cs = v :: cs' ∧ F = F1 ++ F2 ∧ x.rep w v F1 ∧ repCells w xs cs' F2
end

theorem block_of_add (a : Addr) (n : Nat) : (a.add n).block = a.block := by unfold Addr.add; split <;> rfl
theorem add_of_add (a : Addr) (i j : Nat) : (a.add i).add j = a.add (i + j) := by
  unfold Addr.add
  by_cases hi : i = 0 <;> by_cases hj : j = 0 <;> simp [hi, hj, Nat.add_assoc]

theorem cell_same {w w' : World} {a : Addr} (h : w'.heap[a.block]? = w.heap[a.block]?) : w'.cell? a = w.cell? a := World.cell?_of_block h

theorem lt_keep {w w' : World} {b : Nat} (hb : b < w.heap.size) (h : w'.heap[b]? = w.heap[b]?) : b < w'.heap.size := by
  rw [Array.getElem?_eq_getElem hb] at h
  rcases Nat.lt_or_ge b w'.heap.size with hlt | hge
  · exact hlt
  · rw [Array.getElem?_eq_none hge] at h; cases h

mutual
theorem T.rep_keep {w w' : World} : ∀ (x : T) (v : Value) (F : List Nat), x.rep w v F → (∀ b ∈ F, w'.heap[b]? = w.heap[b]?) → x.rep w' v F
  | .int _ _, _, _, h, _ => by simpa only [T.rep] using h
  | .bool _, _, _, h, _ => by simpa only [T.rep] using h
  | .str _, _, _, h, _ => by simpa only [T.rep] using h
  | .lst rows, v, F, h, hk => by
    simp only [T.rep] at h ⊢
    obtain ⟨A, c, hv, hc, h⟩ := h
    refine ⟨A, c, hv, hc, ?_⟩
    rcases h with h | ⟨ad, css, F', sz, hne, hA, hlt, rfl, hr, hg⟩
    · exact .inl h
    · refine .inr ⟨ad, css, F', sz, hne, hA, lt_keep hlt (hk _ (by simp)), rfl, repRows_keep rows css F' hr (fun b hb => hk b (by simp [hb])), fun i cs hi => ⟨(hg i cs hi).1, fun j u hu => ?_⟩⟩
      rw [cell_same (w := w) (by rw [block_of_add]; exact hk _ (by simp))]
      exact (hg i cs hi).2 j u hu
  | .box cells, v, F, h, hk => by
    simp only [T.rep] at h ⊢
    obtain ⟨ad, cs, F', hv, hlt, rfl, hr, hg⟩ := h
    refine ⟨ad, cs, F', hv, lt_keep hlt (hk _ (by simp)), rfl, repCells_keep cells cs F' hr (fun b hb => hk b (by simp [hb])), fun j u hu => ?_⟩
    rw [cell_same (w := w) (by rw [block_of_add]; exact hk _ (by simp))]
    exact hg j u hu
  | .fn f caps, v, F, h, hk => by
    simp only [T.rep] at h ⊢
    obtain ⟨vs, hv, hr⟩ := h
    exact ⟨vs, hv, repCells_keep caps vs F hr hk⟩
theorem repRows_keep {w w' : World} : ∀ (rs : List (List T)) (css : List (List Value)) (F : List Nat), repRows w rs css F → (∀ b ∈ F, w'.heap[b]? = w.heap[b]?) → repRows w' rs css F
  | [], _, _, h, _ => by simpa only [repRows] using h
  | r :: rs, css, F, h, hk => by
    simp only [repRows] at h ⊢
    obtain ⟨cs, css', F1, F2, h1, rfl, h3, h4⟩ := h
    exact ⟨cs, css', F1, F2, h1, rfl, repCells_keep r cs F1 h3 (fun b hb => hk b (by simp [hb])), repRows_keep rs css' F2 h4 (fun b hb => hk b (by simp [hb]))⟩
theorem repCells_keep {w w' : World} : ∀ (xs : List T) (cs : List Value) (F : List Nat), repCells w xs cs F → (∀ b ∈ F, w'.heap[b]? = w.heap[b]?) → repCells w' xs cs F
  | [], _, _, h, _ => by simpa only [repCells] using h
  | x :: xs, cs, F, h, hk => by
    simp only [repCells] at h ⊢
    obtain ⟨v, cs', F1, F2, h1, rfl, h3, h4⟩ := h
    exact ⟨v, cs', F1, F2, h1, rfl, T.rep_keep x v F1 h3 (fun b hb => hk b (by simp [hb])), repCells_keep xs cs' F2 h4 (fun b hb => hk b (by simp [hb]))⟩
end

mutual
theorem T.rep_lt {w : World} : ∀ (x : T) (v : Value) (F : List Nat), x.rep w v F → ∀ b ∈ F, b < w.heap.size
  | .int _ _, _, _, h => by simp only [T.rep] at h; simp [h.2]
  | .bool _, _, _, h => by simp only [T.rep] at h; simp [h.2]
  | .str _, _, _, h => by simp only [T.rep] at h; simp [h.2]
  | .lst rows, v, F, h => by
    simp only [T.rep] at h
    obtain ⟨A, c, hv, _, ⟨_, rfl⟩ | ⟨ad, css, F', sz, hne, hA, hlt, rfl, hr, hg⟩⟩ := h
    · simp
    · intro b hb
      rcases List.mem_cons.1 hb with rfl | hb
      · exact hlt
      · exact repRows_lt rows css F' hr b hb
  | .box cells, v, F, h => by
    simp only [T.rep] at h
    obtain ⟨ad, cs, F', hv, hlt, rfl, hr, hg⟩ := h
    intro b hb
    rcases List.mem_cons.1 hb with rfl | hb
    · exact hlt
    · exact repCells_lt cells cs F' hr b hb
  | .fn f caps, v, F, h => by
    simp only [T.rep] at h
    obtain ⟨vs, hv, hr⟩ := h
    exact repCells_lt caps vs F hr
theorem repRows_lt {w : World} : ∀ (rs : List (List T)) (css : List (List Value)) (F : List Nat), repRows w rs css F → ∀ b ∈ F, b < w.heap.size
  | [], _, _, h => by simp only [repRows] at h; simp [h.2]
  | r :: rs, css, F, h => by
    simp only [repRows] at h
    obtain ⟨cs, css', F1, F2, h1, rfl, h3, h4⟩ := h
    intro b hb
    rcases List.mem_append.1 hb with hb | hb
    · exact repCells_lt r cs F1 h3 b hb
    · exact repRows_lt rs css' F2 h4 b hb
theorem repCells_lt {w : World} : ∀ (xs : List T) (cs : List Value) (F : List Nat), repCells w xs cs F → ∀ b ∈ F, b < w.heap.size
  | [], _, _, h => by simp only [repCells] at h; simp [h.2]
  | x :: xs, cs, F, h => by
    simp only [repCells] at h
    obtain ⟨v, cs', F1, F2, h1, rfl, h3, h4⟩ := h
    intro b hb
    rcases List.mem_append.1 hb with hb | hb
    · exact T.rep_lt x v F1 h3 b hb
    · exact repCells_lt xs cs' F2 h4 b hb
end

/-! ### Rows: their length, one element, joined -/
theorem repRows_length {w : World} : ∀ {rs : List (List T)} {css : List (List Value)} {F : List Nat}, repRows w rs css F → css.length = rs.length
  | [], _, _, h => by simp only [repRows] at h; simp [h.1]
  | r :: rs, _, _, h => by
    simp only [repRows] at h
    obtain ⟨cs, css', F1, F2, rfl, rfl, h3, h4⟩ := h
    simp [repRows_length h4]
theorem repCells_length {w : World} : ∀ {xs : List T} {cs : List Value} {F : List Nat}, repCells w xs cs F → cs.length = xs.length
  | [], _, _, h => by simp only [repCells] at h; simp [h.1]
  | r :: rs, _, _, h => by
    simp only [repCells] at h
    obtain ⟨cs, css', F1, F2, rfl, rfl, h3, h4⟩ := h
    simp [repCells_length h4]
theorem repRows_get {w : World} : ∀ {rs : List (List T)} {css : List (List Value)} {F : List Nat}, repRows w rs css F → ∀ (i : Nat) r, rs[i]? = some r →
    ∃ cs F1, css[i]? = some cs ∧ repCells w r cs F1 ∧ ∀ b ∈ F1, b ∈ F
  | [], _, _, _, i, r, hi => by simp at hi
  | r0 :: rs, _, _, h, i, r, hi => by
    simp only [repRows] at h
    obtain ⟨cs, css', F1, F2, rfl, rfl, h3, h4⟩ := h
    cases i with
    | zero => simp at hi; subst hi; exact ⟨cs, F1, by simp, h3, by intro b hb; simp [hb]⟩
    | succ i =>
      obtain ⟨cs1, F3, h5, h6, h7⟩ := repRows_get h4 i r (by simpa using hi)
      exact ⟨cs1, F3, by simpa using h5, h6, by intro b hb; simp [h7 b hb]⟩
theorem repCells_get {w : World} : ∀ {rs : List T} {css : List Value} {F : List Nat}, repCells w rs css F → ∀ (i : Nat) r, rs[i]? = some r →
    ∃ v F1, css[i]? = some v ∧ r.rep w v F1 ∧ ∀ b ∈ F1, b ∈ F
  | [], _, _, _, i, r, hi => by simp at hi
  | r0 :: rs, _, _, h, i, r, hi => by
    simp only [repCells] at h
    obtain ⟨cs, css', F1, F2, rfl, rfl, h3, h4⟩ := h
    cases i with
    | zero => simp at hi; subst hi; exact ⟨cs, F1, by simp, h3, by intro b hb; simp [hb]⟩
    | succ i =>
      obtain ⟨cs1, F3, h5, h6, h7⟩ := repCells_get h4 i r (by simpa using hi)
      exact ⟨cs1, F3, by simpa using h5, h6, by intro b hb; simp [h7 b hb]⟩
theorem repRows_append {w : World} : ∀ {rs : List (List T)} {css : List (List Value)} {F : List Nat} {rs' : List (List T)} {css' : List (List Value)} {F' : List Nat},
    repRows w rs css F → repRows w rs' css' F' → repRows w (rs ++ rs') (css ++ css') (F ++ F')
  | [], _, _, _, _, _, h, h' => by simp only [repRows] at h; simpa [h.1, h.2] using h'
  | r0 :: rs, _, _, _, _, _, h, h' => by
    simp only [repRows] at h
    obtain ⟨cs, css', F1, F2, rfl, rfl, h3, h4⟩ := h
    simp only [List.cons_append, List.append_assoc, repRows]
    exact ⟨cs, _, F1, _, rfl, rfl, h3, repRows_append h4 h'⟩
theorem repCells_append {w : World} : ∀ {rs : List T} {css : List Value} {F : List Nat} {rs' : List T} {css' : List Value} {F' : List Nat},
    repCells w rs css F → repCells w rs' css' F' → repCells w (rs ++ rs') (css ++ css') (F ++ F')
  | [], _, _, _, _, _, h, h' => by simp only [repCells] at h; simpa [h.1, h.2] using h'
  | r0 :: rs, _, _, _, _, _, h, h' => by
    simp only [repCells] at h
    obtain ⟨cs, css', F1, F2, rfl, rfl, h3, h4⟩ := h
    simp only [List.cons_append, List.append_assoc, repCells]
    exact ⟨cs, _, F1, _, rfl, rfl, h3, repCells_append h4 h'⟩

/-! ### A row that the call owns: its slice begins at its block's head -/
def RowOwn (w : World) (v : Value) (n sz : Nat) (xs : List Value) : Prop :=
  xs.length = n * sz ∧
  ((∃ A, v = .slice A 0 0 ∧ n = 0) ∨
   ∃ g cap cur e, v = .slice (some ⟨g, 0, none⟩) n cap ∧ 0 < cap ∧ w.heap[g]? = some (.cells cur e (0, 0)) ∧ n ≤ cap ∧ cap ≤ maxLen ∧ cur.size = cap * sz ∧ cur.toList.take (n * sz) = xs)

def hd : Value → List Nat
  | .slice (some a) _ (_ + 1) => [a.block]
  | .pointer (some a) => [a.block]
  | _ => []

theorem RowOwn.keep {w w' : World} {v : Value} {n sz : Nat} {xs : List Value} (h : RowOwn w v n sz xs) (hk : ∀ b ∈ hd v, w'.heap[b]? = w.heap[b]?) : RowOwn w' v n sz xs := by
  refine ⟨h.1, ?_⟩
  rcases h.2 with h2 | ⟨g, cap, cur, e, rfl, hp, hh, r⟩
  · exact .inl h2
  · cases cap with
    | zero => omega
    | succ cap => exact .inr ⟨g, cap + 1, cur, e, rfl, hp, by rw [hk g (by simp [hd])]; exact hh, r⟩

theorem RowOwn.cells {w : World} {n sz c : Nat} {a : Addr} {xs : List Value} (h : RowOwn w (.slice (some a) n c) n sz xs) : ∀ (j : Nat) u, xs[j]? = some u → w.cell? (a.add j) = some u := by
  rcases h.2 with ⟨A, h2, hn⟩ | ⟨g, cap, cur, e, hv, hp, hh, hn, hm, hs, ht⟩
  · subst hn
    have hx : xs = [] := List.eq_nil_of_length_eq_zero (by simpa using h.1)
    subst hx
    intro j u hu
    simp at hu
  · injection hv with h1 _ _
    injection h1 with h1
    subst h1
    intro j u hu
    rw [← ht] at hu
    have hj : j < n * sz := by
      have hl := (List.getElem?_eq_some_iff.1 hu).1
      simp at hl
      omega
    rw [List.getElem?_take_of_lt hj] at hu
    have hadd : ((⟨g, 0, none⟩ : Addr).add j) = ⟨g, j, none⟩ := by unfold Addr.add; split <;> simp_all
    rw [hadd]
    simp only [World.cell?, hh]
    simpa using hu

/-- 'append' onto a row of the call's own, whatever the block's own element type. -/
theorem run_append {P : Program} (w : World) (t ty e : TypeId) (i : TypeInfo) (z : Value) (ht : P.underlying t = some (.slice e)) (hi : P.info? e = some i) (hz : i.zero = some z)
    (hzs : z.cells.size = i.size) (v : Value) (n : Nat) (xs : List Value) (hown : RowOwn w v n i.size xs)
    (A : Option Addr) (m c : Nat) (news : List Value) (hl : news.length = m * i.size) (hA : 0 < m → ∃ a, A = some a ∧ ∀ (j : Nat) u, news[j]? = some u → w.cell? (a.add j) = some u)
    (h1 : ∀ u ∈ news, u.oneCell' = true) (hb : (n + m) * i.bytes ≤ 140737488355328) (hnm : n + m ≤ 140737488355328) :
    ∃ v' w', (Builtin.append_ #[t, t] ty #[v, .slice A m c]).run P w = .ok v' w' ∧ RowOwn w' v' (n + m) i.size (xs ++ news) ∧ w.grownBy w' (hd v).head? ∧
      (hd v' = hd v ∨ (hd v' = [w.heap.size] ∧ w.heap.size < w'.heap.size)) := by
  have hsmall : n + m ≤ 9223372036854775807 := by omega
  have hml : n + m ≤ maxLen := by simp only [maxLen]; omega
  have hlen : (xs ++ news).length = (n + m) * i.size := by rw [List.length_append, hown.1, hl, Nat.add_mul]
  rcases Nat.eq_zero_or_pos m with hm | hm
  · subst hm
    have hn : news = [] := List.eq_nil_of_length_eq_zero (by simpa using hl)
    subst hn
    refine ⟨v, w, ?_, by simpa using hown, World.grownBy.refl w _, .inl rfl⟩
    rcases hown.2 with ⟨B, rfl, rfl⟩ | ⟨g, cap, cur, e', rfl, hp, hg, hnc, hcm, hcs, htake⟩
    · cases A <;> cases B <;> simp [Builtin.append_, run_underlying ht, sizeOf, typeInfo, hi, Builtin.lenOf, Builtin.firstCells, loadCells, loadCellsFrom, storeCells]
    · have hx : ∀ w, (Builtin.firstCells i.size 0 (.slice A 0 c)).run P w = .ok #[] w := by
        intro w
        cases A <;> simp [Builtin.firstCells, loadCells, loadCellsFrom]
      simp [Builtin.append_, run_underlying ht, sizeOf, typeInfo, hi, Builtin.lenOf, hnc, hx, storeCells]
  obtain ⟨a, rfl, hnews⟩ := hA hm
  have grown : ∀ (old : Nat), old < n + m → ∀ (row : Option Nat),
      RowOwn (w.drew.alloc (.cells (xs.toArray ++ news.toArray ++ Builtin.zeroCells z.cells (grownCap w (n + m) old e - (n + m))) e)) (.slice (some ⟨w.heap.size, 0, none⟩) (n + m) (grownCap w (n + m) old e)) (n + m) i.size (xs ++ news) ∧
      w.grownBy (w.drew.alloc (.cells (xs.toArray ++ news.toArray ++ Builtin.zeroCells z.cells (grownCap w (n + m) old e - (n + m))) e)) row := by
    intro old ho row
    have hge := grownCap_ge w (n + m) old e
    have hcm : grownCap w (n + m) old e ≤ maxLen := grownCap_le_maxLen w (n + m) old e hml
    refine ⟨⟨hlen, .inr ⟨w.heap.size, _, _, e, rfl, by omega, Go.heap_alloc_new w.drew _, hge, hcm, ?_, ?_⟩⟩, ⟨rfl, rfl, rfl, by simp, fun k hk _ => by exact Below.heap_alloc w.drew _ k hk⟩⟩
    · simp only [Array.size_append, List.size_toArray, size_zeroCells, hzs, hown.1, hl, ← Nat.add_mul]
      congr 1
      omega
    · simp only [Array.toList_append, List.append_assoc]
      rw [← List.append_assoc, ← hlen]
      exact List.take_left
  have hdnew : ∀ old, hd (.slice (some ⟨w.heap.size, 0, none⟩) (n + m) (grownCap w (n + m) old e)) = [w.heap.size] := fun old => by
    have hge := grownCap_ge w (n + m) old e
    cases hc : grownCap w (n + m) old e with
    | zero => omega
    | succ c => rfl
  rcases hown.2 with ⟨B, rfl, rfl⟩ | ⟨g, cap, cur, e', rfl, hp, hg, hnc, hcm, hcs, htake⟩
  · have hx : xs = [] := List.eq_nil_of_length_eq_zero (by simpa using hown.1)
    subst hx
    have hdn := hdnew 0
    have hgr := grown 0 (by omega) (hd (.slice B 0 0)).head?
    cases B with
    | none =>
      have hr := run_append_nil (P := P) w t ty e i z ht hi hz a m c news hl hnews (by omega) (by omega) (by have hb := hb; simp only [Nat.zero_add] at hb; omega)
      simp only [Nat.zero_add, List.nil_append, Array.empty_append] at hgr hdn ⊢
      exact ⟨_, _, hr, hgr.1, hgr.2, .inr ⟨hdn, by simp⟩⟩
    | some b =>
      have hr := run_append_grow (P := P) w t ty e i z ht hi hz b 0 0 [] (by simp) (by simp) a m c news hl hnews (by omega) (by omega) (growslice_fits (by omega) hb)
      exact ⟨_, _, hr, hgr.1, hgr.2, .inr ⟨hdn, by simp⟩⟩
  · by_cases hroom : n + m ≤ cap
    · have hfit : n * i.size + news.length ≤ cur.size := by rw [hl, hcs, ← Nat.add_mul]; exact Nat.mul_le_mul_right _ hroom
      have hf := run_firstCells_some (P := P) w i.size m a m c news hl hnews
      have hst := run_storeCells_at P g (n * i.size) e' news 0 cur w hg (by simpa using hfit) h1
      simp only [Nat.add_zero] at hst
      have hr : (Builtin.append_ #[t, t] ty #[.slice (some ⟨g, 0, none⟩) n cap, .slice (some a) m c]).run P w =
          .ok (.slice (some ⟨g, 0, none⟩) (n + m) cap) (w.setRow g (cur.toList.take (n * i.size) ++ news ++ cur.toList.drop (n * i.size + news.length)).toArray) := by
        simp [Builtin.append_, run_underlying ht, sizeOf, typeInfo, hi, Builtin.lenOf, hroom, hf, Addr.add_lit, hst]
      refine ⟨_, _, hr, ⟨hlen, .inr ⟨g, cap, _, e', rfl, hp, setRow_heap w g cur _ e' _ hg, hroom, hcm, ?_, ?_⟩⟩, ⟨rfl, rfl, rfl, by simp, fun k _ hk => setRow_other w g k _ (fun e => hk ?_)⟩, .inl ?_⟩
      · simp only [List.size_toArray, List.length_append, List.length_take, List.length_drop, Array.length_toList]
        omega
      · rw [htake, ← hlen]
        exact List.take_left
      · cases cap with
        | zero => omega
        | succ cap => simp [hd, e]
      · cases cap with
        | zero => omega
        | succ cap => rfl
    · have holds : ∀ (j : Nat) u, xs[j]? = some u → w.cell? ((⟨g, 0, none⟩ : Addr).add j) = some u := hown.cells
      have hr := run_append_grow (P := P) w t ty e i z ht hi hz ⟨g, 0, none⟩ n cap xs hown.1 holds a m c news hl hnews (by omega) (by omega) (growslice_fits (by omega) hb)
      have hgr := grown cap (by omega) (hd (.slice (some ⟨g, 0, none⟩) n cap)).head?
      exact ⟨_, _, hr, hgr.1, hgr.2, .inr ⟨hdnew cap, by simp⟩⟩
end Go.Vm
