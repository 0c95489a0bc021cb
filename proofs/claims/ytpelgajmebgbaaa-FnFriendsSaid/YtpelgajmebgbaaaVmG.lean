/-
  Soundness of the operations that read memory or make new objects.
  Conditions: the table of types fits the program ('TOk').
-/
import Derived.Test.YtpelgajmebgbaaaVmF
namespace Go.Vm
open Go.RowKit

section
variable {P : Program} {E : Nat → Option TI} {vl : Operand → Option AV} {o : Oper} {σ : St} {av : AV}

theorem quiet_goes
    (hrun : ∀ (w0 : Base) O G w a, (∀ id ob, get σ.objs id = some ob → get O id = some ob) → Mem w0 O G w → OpsRep vl o.op O G w a → ∃ v, (execOp a.eval o).run P w = .ok (.value v) w ∧ av.rep O G w v) :
    GoesB P vl o σ σ av := by
  intro w0 O G w a Kc Q hsub hM hops _ hK
  obtain ⟨v, h1, h2⟩ := hrun w0 O G w a hsub hM hops
  exact wp_value h1 (hK G v w hM Pres.refl h2 (fun j hj => .inl hj))

theorem newRow_goes {ob : Ob} (hw : σ.wf)
    (hrun : ∀ (w0 : Base) O G w a, (∀ id ob, get σ.objs id = some ob → get O id = some ob) → Mem w0 O G w → OpsRep vl o.op O G w a →
      ∃ (arr : Array Value) (e : TypeId) (n c : Nat), (execOp a.eval o).run P w = .ok (.value (.slice (some ⟨w.heap.size, 0, none⟩) n c)) (w.alloc (.cells arr e)) ∧
        ∀ G' : Gh, G'.φ σ.next = .slice (some ⟨w.heap.size, 0, none⟩) n c → (G'.Φ σ.next = hd (.slice (some ⟨w.heap.size, 0, none⟩) n c) ∧ G'.h σ.next = hd (.slice (some ⟨w.heap.size, 0, none⟩) n c)) → Pres O G w O G' (w.alloc (.cells arr e)) → ob.rep O G' (w.alloc (.cells arr e)) σ.next) :
    GoesB P vl o σ (σ.new ob) (.c (.ref σ.next)) := by
  intro w0 O G w a Kc Q hsub hM hops hfr hK
  have hsub0 : ∀ id ob, get σ.objs id = some ob → get O id = some ob := fun id ob h => hsub id ob (by rw [(σ.ext_new _).objs id (hw id ob h)]; exact h)
  obtain ⟨arr, e, n, c, h1, h2⟩ := hrun w0 O G w a hsub0 hM hops
  obtain ⟨hb, hn⟩ := newBlock w arr e
  have hOn : get O σ.next = some ob := hsub _ _ (σ.new_get _)
  obtain ⟨hφ, hΦ, hA⟩ := Gh.add_new (G := G) σ.next (.slice (some ⟨w.heap.size, 0, none⟩) n c) (hd (.slice (some ⟨w.heap.size, 0, none⟩) n c))
  have hhd : ∀ b ∈ hd (.slice (some ⟨w.heap.size, 0, none⟩) n c), b = w.heap.size := by
    intro b hb
    cases c with
    | zero => simp [hd] at hb
    | succ c => simpa [hd] using hb
  obtain ⟨hM', hp⟩ := hM.new1 (w' := w.alloc (.cells arr e)) σ.next (.slice (some ⟨w.heap.size, 0, none⟩) n c) (hd (.slice (some ⟨w.heap.size, 0, none⟩) n c)) (hfr _ (Nat.le_refl _) (by simp [St.new])) hb
    (by cases c <;> simp [hd]) (fun b hbb => by rw [hhd b hbb]; exact ⟨Nat.le_refl _, _, _, hn⟩) (fun b hb => hb) (fun x hx p => by
      rw [hOn] at hx
      injection hx with hx
      subst hx
      exact h2 _ hφ ⟨hΦ, hA.2⟩ p)
  refine wp_value h1 (hK _ _ _ hM' hp ?_ (fun j hj => ?_))
  · simp only [AV.rep]
    exact ⟨hA.1, hφ.symm, one_slice _ _ _⟩
  · rcases Gh.add_A hj with h | h
    · exact .inl h
    · exact .inr (by subst h; simp [St.new])
end

/-! ### Literals -/
theorem splice_fold : ∀ (vs : List Value) (k off : Nat) (cells : Array Value), off + k + vs.length ≤ cells.size →
    ((vs.zipIdx k).foldl (fun cs (p : Value × Nat) => cs.setIfInBounds (off + p.2) p.1) cells).toList = cells.toList.take (off + k) ++ vs ++ cells.toList.drop (off + k + vs.length)
  | [], k, off, cells, h => by simp
  | v :: vs, k, off, cells, h => by
    simp only [List.length_cons] at h
    have hlt : off + k < cells.toList.length := by simp; omega
    have hs : (cells.setIfInBounds (off + k) v).toList = cells.toList.take (off + k) ++ v :: cells.toList.drop (off + k + 1) := by
      rw [Array.toList_setIfInBounds, List.set_eq_take_append_cons_drop, if_pos hlt]
    simp only [List.zipIdx_cons, List.foldl_cons]
    rw [splice_fold vs (k + 1) off _ (by simp; omega), hs]
    have h1 : (cells.toList.take (off + k)).length = off + k := by simp; omega
    have e1 : List.take (off + (k + 1)) (cells.toList.take (off + k) ++ v :: cells.toList.drop (off + k + 1)) = cells.toList.take (off + k) ++ [v] := by
      rw [List.take_append, h1, show off + (k + 1) - (off + k) = 1 by omega, List.take_of_length_le (by omega)]
      rfl
    have e2 : List.drop (off + (k + 1) + vs.length) (cells.toList.take (off + k) ++ v :: cells.toList.drop (off + k + 1)) = cells.toList.drop (off + k + (vs.length + 1)) := by
      rw [List.drop_append, h1, show off + (k + 1) + vs.length - (off + k) = vs.length + 1 by omega, List.drop_of_length_le (by omega), List.nil_append, List.drop_succ_cons, List.drop_drop]
      congr 1
      omega
    rw [e1, e2]
    simp

theorem fold_cells (cells : Array Value) (v : Value) (off : Nat) (h : off + v.cells.size ≤ cells.size) :
    (v.cells.zipIdx.foldl (fun cs (p : Value × Nat) => cs.setIfInBounds (off + p.2) p.1) cells).toList = cells.toList.take off ++ v.cells.toList ++ cells.toList.drop (off + v.cells.size) := by
  rw [← Array.foldl_toList, Array.toList_zipIdx]
  have := splice_fold v.cells.toList 0 off cells (by simpa using h)
  simpa using this

section
variable {P : Program} {E : Nat → Option TI} {O : List (Nat × Ob)} {G : Gh} {w : World} {w0 : Base}

theorem T.rep_one {x : T} {v : Value} {F : List Nat} (h : x.rep w v F) : one v := by
  cases x <;> simp only [T.rep] at h
  · rw [h.1]; exact ⟨rfl, rfl⟩
  · rw [h.1]; exact ⟨rfl, rfl⟩
  · rw [h.1]; exact ⟨rfl, rfl⟩
  · obtain ⟨A, c, rfl, _⟩ := h; exact ⟨rfl, rfl⟩
  · obtain ⟨ad, cs, F', rfl, _⟩ := h; exact ⟨rfl, rfl⟩
  · obtain ⟨vs, rfl, _⟩ := h; exact ⟨rfl, rfl⟩
theorem C.rep_one {x : C} {v : Value} (h : x.rep O G w v) : one v := by
  cases x with
  | nil => have h' : v = .slice none 0 0 := h; subst h'; exact ⟨rfl, rfl⟩
  | nil0 => obtain ⟨A, rfl⟩ := h; exact ⟨rfl, rfl⟩
  | t x => obtain ⟨F, h, _⟩ := h; exact T.rep_one h
  | anc x => obtain ⟨F, h, _⟩ := h; exact T.rep_one h
  | ref id => exact h.2.2
  | fn f ids => obtain ⟨h, _⟩ := h; rw [h]; exact ⟨rfl, rfl⟩
  | view id sz lo hi => obtain ⟨_, _, A, c, h, _⟩ := h; rw [h]; exact ⟨rfl, rfl⟩
theorem repCs_one : ∀ {xs : List C} {vs : List Value}, repCs O G w xs vs → ∀ v ∈ vs, v.oneCell' = true
  | [], vs, h, v, hv => by simp only [repCs] at h; subst h; simp at hv
  | x :: xs, _, ⟨u, vs', h1, h2, h3⟩, v, hv => by
    subst h1
    rcases List.mem_cons.1 hv with rfl | hv
    · exact (C.rep_one h2).1
    · exact repCs_one h3 v hv
theorem repCells_one : ∀ {xs : List T} {vs : List Value} {F : List Nat}, repCells w xs vs F → ∀ v ∈ vs, v.oneCell' = true
  | [], vs, F, h, v, hv => by simp only [repCells] at h; simp [h.1] at hv
  | x :: xs, _, F, h, v, hv => by
    simp only [repCells] at h
    obtain ⟨u, vs', F1, F2, h1, h4, h2, h3⟩ := h
    subst h1
    rcases List.mem_cons.1 hv with rfl | hv
    · exact (T.rep_one h2).1
    · exact repCells_one h3 v hv

theorem cellsOf_rep {v : AV} {cs : List C} {u : Value} (h : cellsOf v = some cs) (hr : v.rep O G w u) : ∃ vs, u.cells = List.toArray vs ∧ repCs O G w cs vs := by
  unfold cellsOf at h
  split at h
  · injection h with h
    subst h
    simp only [AV.rep] at hr
    exact ⟨[u], (C.rep_one hr).2, u, [], rfl, hr, rfl⟩
  · injection h with h
    subst h
    simp only [AV.rep] at hr
    obtain ⟨vs, rfl, h2⟩ := hr
    exact ⟨vs, rfl, h2⟩
  · cases h

/-- The parts of a struct literal: what 'fill' makes of them. -/
theorem fillC_rep (hE : TOk P E) {offs : List (Nat × Nat)} {vl : Operand → Option AV} {a : Act} (places : Nat → Option (Nat × Nat)) (hpl : ∀ (i off ty : Nat), offs[i]? = some (off, ty) → ∀ ti, E ty = some ti → places i = some (off, ti.size)) :
    ∀ {parts : List (Nat × Operand)} {zs cs : List C} {us : List Value}, fillC E offs vl parts zs = some cs → (∀ p ∈ parts, ∀ v, vl p.2 = some v → v.rep O G w (a.eval p.2)) → repCs O G w zs us →
      ∃ vs, Instr.fill places us.toArray (parts.map fun p => (p.1, a.eval p.2)) = some vs.toArray ∧ repCs O G w cs vs
  | [], zs, cs, us, h, _, hz => by
    simp only [fillC, Option.some.injEq] at h
    subst h
    exact ⟨us, rfl, hz⟩
  | (i, x) :: r, zs, cs, us, h, hr, hz => by
    simp only [fillC] at h
    split at h
    · rename_i off ty v e1 e2
      split at h
      · rename_i cs1 ti e3 e4
        cases hb : (Nat.beq cs1.length ti.size && Nat.ble (off + cs1.length) zs.length) with
        | false => simp [hb] at h
        | true =>
          simp only [hb, cond_true] at h
          simp only [Bool.and_eq_true] at hb
          have hb1 : cs1.length = ti.size := Nat.eq_of_beq_eq_true hb.1
          have hb2 : off + cs1.length ≤ zs.length := Nat.le_of_ble_eq_true hb.2
          obtain ⟨vs1, hv1, hv2⟩ := cellsOf_rep e3 (hr (i, x) (by simp) v e2)
          have hl := repCs_length hv2
          have hlz := repCs_length hz
          have hsz : (a.eval x).cells.size = vs1.length := by rw [hv1]; simp
          have hnew : repCs O G w (zs.take off ++ cs1 ++ zs.drop (off + cs1.length)) (us.take off ++ vs1 ++ us.drop (off + vs1.length)) := by
            rw [hl]
            exact repCs_append (repCs_append (repCs_take off hz) hv2) (repCs_drop _ hz)
          obtain ⟨vs, h1, h2⟩ := fillC_rep hE places hpl h (fun p hp => hr p (by simp [hp])) hnew
          refine ⟨vs, ?_, h2⟩
          rw [← h1]
          simp only [List.map_cons, Instr.fill, hpl i off ty e1 ti e4]
          rw [if_neg (by rw [hsz]; simp; omega)]
          congr 1
          have hf := fold_cells us.toArray (a.eval x) off (by rw [hsz]; simp; omega)
          rw [hv1] at hf ⊢
          apply Array.ext'
          rw [hf]
          simp
      · cases h
    · cases h

theorem rowsC_rep {sz : Nat} {vl : Operand → Option AV} {a : Act} : ∀ {parts : List (Nat × Operand)} {k : Nat} {rows : List (List C)}, rowsC sz vl k parts = some rows → (∀ p ∈ parts, ∀ v, vl p.2 = some v → v.rep O G w (a.eval p.2)) →
    ∃ css, repCss O G w rows css ∧ (∀ cs ∈ css, cs.length = sz) ∧ rows.length = parts.length ∧ css.length = parts.length ∧
      ∀ (cells : Array Value), (k + parts.length) * sz ≤ cells.size →
        ∃ cells', Instr.fill (fun i => some (i * sz, sz)) cells (parts.map fun p => (p.1, a.eval p.2)) = some cells' ∧ cells'.toList = cells.toList.take (k * sz) ++ css.flatten ++ cells.toList.drop ((k + parts.length) * sz)
  | [], k, rows, h, _ => by
    simp only [rowsC, Option.some.injEq] at h
    subst h
    exact ⟨[], rfl, by simp, rfl, rfl, fun cells _ => ⟨cells, rfl, by simp⟩⟩
  | (i, x) :: r, k, rows, h, hr => by
    simp only [rowsC] at h
    cases hik : Nat.beq i k with
    | false => simp [hik] at h
    | true =>
      have hik' : i = k := Nat.eq_of_beq_eq_true hik
      simp only [hik, cond_true] at h
      split at h
      · rename_i v ev
        split at h
        · rename_i cs1 e1
          cases hb : Nat.beq cs1.length sz with
          | false => simp [hb] at h
          | true =>
            have hb' : cs1.length = sz := Nat.eq_of_beq_eq_true hb
            simp only [hb, cond_true] at h
            split at h
            · rename_i rs e2
              injection h with h
              subst h
              obtain ⟨vs1, hv1, hv2⟩ := cellsOf_rep e1 (hr (i, x) (by simp) v ev)
              have hl : vs1.length = sz := by rw [repCs_length hv2, hb']
              obtain ⟨css, h1, h2, h3, h4, h5⟩ := rowsC_rep e2 (fun p hp => hr p (by simp [hp]))
              have hsz : (a.eval x).cells.size = sz := by rw [hv1]; simp [hl]
              refine ⟨vs1 :: css, ⟨vs1, css, rfl, hv2, h1⟩, ?_, by simp [h3], by simp [h4], fun cells hc => ?_⟩
              · intro cs hcs
                rcases List.mem_cons.1 hcs with rfl | hcs
                · exact hl
                · exact h2 cs hcs
              · simp only [List.length_cons] at hc
                have hk1 : k * sz + sz ≤ cells.size := by
                  have : (k + 1) * sz ≤ (k + (r.length + 1)) * sz := Nat.mul_le_mul_right _ (by omega)
                  rw [Nat.add_mul, Nat.one_mul] at this
                  omega
                have hf := fold_cells cells (a.eval x) (k * sz) (by rw [hsz]; exact hk1)
                generalize hg : (a.eval x).cells.zipIdx.foldl (fun cs (p : Value × Nat) => cs.setIfInBounds (k * sz + p.2) p.1) cells = c1 at hf
                have hc1 : c1.size = cells.size := by
                  rw [← Array.length_toList, hf, hsz, hv1]
                  simp [hl]
                  omega
                obtain ⟨cells', h6, h7⟩ := h5 c1 (by rw [hc1]; have e : k + 1 + r.length = k + (r.length + 1) := by omega
                                                     rw [e]; exact hc)
                refine ⟨cells', ?_, ?_⟩
                · simp only [List.map_cons, Instr.fill, hik']
                  rw [if_neg (by rw [hsz]; simp; omega)]
                  rw [← h6, ← hg]
                · rw [h7, hf, hsz, hv1]
                  simp only [List.flatten_cons]
                  have ht : (cells.toList.take (k * sz)).length = k * sz := by simp; omega
                  have e1 : List.take ((k + 1) * sz) (List.take (k * sz) cells.toList ++ vs1 ++ List.drop (k * sz + sz) cells.toList) = List.take (k * sz) cells.toList ++ vs1 := by
                    rw [List.take_append_of_le_length (by simp [hl, Nat.add_mul]; omega)]
                    rw [List.take_of_length_le (by simp [hl, Nat.add_mul]; omega)]
                  have e2 : List.drop ((k + 1 + r.length) * sz) (List.take (k * sz) cells.toList ++ vs1 ++ List.drop (k * sz + sz) cells.toList) = List.drop ((k + (r.length + 1)) * sz) cells.toList := by
                    have e3 : (k + 1 + r.length) * sz = k * sz + sz + r.length * sz := by simp [Nat.add_mul]
                    have e4 : (k + (r.length + 1)) * sz = k * sz + sz + r.length * sz := by simp [Nat.add_mul]; omega
                    rw [List.drop_append, e3, e4, List.drop_of_length_le (by simp [hl]; omega), List.nil_append, List.length_append, ht, hl, List.drop_drop]
                    congr 1
                    omega
                  simp only [List.length_cons]
                  rw [e1, e2]
                  simp
            · cases h
        · cases h
      · cases h
end
end Go.Vm
