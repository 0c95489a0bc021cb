/-
  Soundness of 'opB': every operation that reads memory or makes new objects.
  Conditions: the table of types fits the program ('TOk').
-/
import Derived.Test.YtpelgajmebgbaaaVmH
namespace Go.Vm
open Go.RowKit

section
variable {P : Program} {E : Nat → Option TI} {vl : Operand → Option AV} {σ : St}

/-- What is claimed of each: the value and the state that the continuation got, and how a run goes. -/
def SoundB (P : Program) (vl : Operand → Option AV) (o : Oper) (σ : St) (K : AV → St → Prop) : Prop :=
  ∃ av σ', K av σ' ∧ σ.ext σ' ∧ σ'.wf ∧ GoesB P vl o σ σ' av

theorem SoundB.quiet {o : Oper} {K : AV → St → Prop} (hw : σ.wf) {av : AV} (h : K av σ)
    (hrun : ∀ (w0 : Base) O G w a, (∀ id ob, get σ.objs id = some ob → get O id = some ob) → Mem w0 O G w → OpsRep vl o.op O G w a → ∃ v, (execOp a.eval o).run P w = .ok (.value v) w ∧ av.rep O G w v) :
    SoundB P vl o σ K := ⟨av, σ, h, σ.ext_refl, hw, quiet_goes hrun⟩

theorem sound_alloc (hE : TOk P E) (hw : σ.wf) {dst : Option Tmp} {type : TypeId} {pos : String} {after : Array Edge} {guard : Option (Nat × Bool)} {t : Nat} {K : AV → St → Prop}
    (h : opB P E vl (.alloc t) σ K) : SoundB P vl ⟨dst, .alloc t, type, pos, after, guard⟩ σ K := by
  simp only [opB] at h
  obtain ⟨ti, e, h⟩ := need_some h
  refine ⟨_, _, h, σ.ext_new _, St.wf_new σ hw _, newBox_goes hw (fun O G w a _ => ?_)⟩
  obtain ⟨i, z, hi, hs, hb, hz, hzc, _⟩ := (hE t ti e).info
  refine ⟨ti.zero.map C.plain, t, plains_rep (hE t ti e).plain, ?_⟩
  simp [execOp, Instr.alloc, zeroValue, typeInfo, hi, hz, newVar, newRow, hzc]

theorem sound_box (hw : σ.wf) {dst : Option Tmp} {type : TypeId} {pos : String} {after : Array Edge} {guard : Option (Nat × Bool)} {t : Nat} {x : Operand} {K : AV → St → Prop}
    (h : opB P E vl (.box t x) σ K) : SoundB P vl ⟨dst, .box t x, type, pos, after, guard⟩ σ K := by
  simp only [opB] at h
  obtain ⟨v, e, h⟩ := need_some h
  obtain ⟨cs, e2, h⟩ := need_some h
  refine ⟨_, _, h, σ.ext_new _, St.wf_new σ hw _, newBox_goes hw (fun O G w a hr => ?_)⟩
  obtain ⟨vs, h1, h2⟩ := cellsOf_rep e2 (hr x (by simp [Op.operands]) v e)
  exact ⟨vs, t, h2, by simp [execOp, Instr.box, newVar, newRow, h1]⟩

theorem sound_build (hE : TOk P E) (hw : σ.wf) {dst : Option Tmp} {type : TypeId} {pos : String} {after : Array Edge} {guard : Option (Nat × Bool)} {t : Nat} {parts : Array (Nat × Operand)} {K : AV → St → Prop}
    (h : opB P E vl (.build t parts) σ K) : SoundB P vl ⟨dst, .build t parts, type, pos, after, guard⟩ σ K := by
  simp only [opB] at h
  obtain ⟨ti, e, h⟩ := need_some h
  generalize hk : ti.k = k0 at h
  cases k0 <;> try exact h.elim
  rename_i offs
  obtain ⟨cs, e2, h⟩ := need_some h
  refine SoundB.quiet hw h (fun w0 O G w a _ hM hr => ?_)
  obtain ⟨i, z, hi, hs, hb, hz, hzc, _⟩ := (hE t ti e).info
  obtain ⟨d, hd, _, hkk⟩ := (hE t ti e).desc
  rw [hk] at hkk
  obtain ⟨fs, rfl, hof, hss⟩ := hkk
  -- the places that the model reckons
  have hplaces : ∀ (l : List Field), (∀ f : Field, f ∈ l → ∃ i, P.info? f.type = some i ∧ i.size ≠ 0) → ∃ pl : List (Nat × Nat), (∀ w, (l.mapM (m := Sem) fun (f : Field) => do pure (f.offset, ← sizeOf f.type)).run P w = .ok pl w) ∧
      ∀ k : Nat, pl[k]? = (l[k]?).bind fun (f : Field) => (P.info? f.type).map fun i => (f.offset, i.size) := by
    intro l
    induction l with
    | nil => intro _; exact ⟨[], fun w => by simp, by simp⟩
    | cons f l ih =>
      intro hl
      obtain ⟨fi, hfi, _⟩ := hl f (by simp)
      obtain ⟨pl, h1, h2⟩ := ih (fun g hg => hl g (by simp [hg]))
      refine ⟨(f.offset, fi.size) :: pl, fun w => ?_, fun k => ?_⟩
      · have hsz : ∀ w, (sizeOf f.type).run P w = .ok fi.size w := fun w => by simp [sizeOf, typeInfo, hfi]
        simp only [List.mapM_cons, Sem.run_bind, hsz, Result.andThen_ok, Sem.run_pure, h1]
      · cases k with
        | zero => simp [hfi]
        | succ k => simpa using h2 k
  obtain ⟨pl, hpl1, hpl2⟩ := hplaces fs.toList hss
  have hfill := fillC_rep (O := O) (G := G) (w := w) hE (vl := vl) (a := a) (fun k => pl.toArray[k]?) (fun i off ty hi' ti' hti' => by
    rw [← hof, List.getElem?_map] at hi'
    cases hf : fs.toList[i]? with
    | none => rw [hf] at hi'; cases hi'
    | some f =>
      rw [hf] at hi'
      simp only [Option.map_some, Option.some.injEq, Prod.mk.injEq] at hi'
      obtain ⟨fi, hfi, _⟩ := hss f (List.mem_of_getElem? hf)
      obtain ⟨i2, z2, hi2, hs2, _⟩ := (hE ty ti' hti').info
      have : fi = i2 := by rw [hi'.2] at hfi; rw [hfi] at hi2; exact Option.some.inj hi2
      subst this
      simp [hpl2, hf, hi'.1, hfi, hs2]) e2 (fun p hp v hv => hr p.2 (by simp only [Op.operands]; rw [List.mem_toArray]; exact List.mem_map.2 ⟨p, hp, rfl⟩) v hv) (plains_rep (hE t ti e).plain)
  obtain ⟨vs, h1, h2⟩ := hfill
  refine ⟨.agg vs.toArray, ?_, by simp only [AV.rep]; exact ⟨vs, rfl, h2⟩⟩
  have hm : ∀ w, (fs.mapM (m := Sem) fun (f : Field) => do pure (f.offset, ← sizeOf f.type)).run P w = .ok pl.toArray w := fun w => by
    rw [Array.mapM_eq_mapM_toList, Sem.run_map, hpl1]
    rfl
  have hzc' : z.cells = (ti.zero.map C.plain).toArray := hzc
  simp only [execOp, Instr.build, Sem.run_bind, zeroValue, typeInfo, run_program, Result.andThen_ok, hi, hz, Sem.run_pure, run_underlying hd, hm, hzc', Array.toList_map]
  have e3 : (parts.toList.map fun p => (p.1, a.eval p.2)) = parts.toList.map (fun (x : Nat × Operand) => match x with | (i, x) => (i, a.eval x)) := List.map_congr_left (fun p _ => rfl)
  rw [← e3, h1]
  rfl

section
variable {dst : Option Tmp} {type : TypeId} {pos : String} {after : Array Edge} {guard : Option (Nat × Bool)} {K : AV → St → Prop}

theorem sound_buildSlice (hE : TOk P E) (hw : σ.wf) {t len : Nat} {parts : Array (Nat × Operand)}
    (h : opB P E vl (.buildSlice t len parts) σ K) : SoundB P vl ⟨dst, .buildSlice t len parts, type, pos, after, guard⟩ σ K := by
  simp only [opB] at h
  obtain ⟨ti, e, h⟩ := need_some h
  generalize hk : ti.k = k0 at h
  cases k0 <;> try exact h.elim
  rename_i el
  obtain ⟨te, ee, h⟩ := need_some h
  obtain ⟨rows, er, h⟩ := need_some h
  obtain ⟨⟨hlen, h24, h24b⟩, h⟩ := h
  obtain ⟨d, hd, _, hkk⟩ := (hE t ti e).desc
  rw [hk] at hkk
  simp only [TKok] at hkk
  subst hkk
  obtain ⟨i, z, hi, hs, hb, hz, hzc, hzs⟩ := (hE el te ee).info
  have run : ∀ (O : List (Nat × Ob)) (G : Gh) (w : World) (a : Act), OpsRep vl (Op.buildSlice t len parts) O G w a → ∃ css, repCss O G w rows css ∧ (∀ cs ∈ css, cs.length = te.size) ∧ css.length = len ∧
      (execOp a.eval ⟨dst, .buildSlice t len parts, type, pos, after, guard⟩).run P w = .ok (.value (.slice (some ⟨w.heap.size, 0, none⟩) len len)) (w.alloc (.cells css.flatten.toArray el)) := by
    intro O G w a hr
    obtain ⟨css, h1, h2, h3, h4, h5⟩ := rowsC_rep (O := O) (G := G) (w := w) (a := a) er (fun p hp v hv => hr p.2 (by simp only [Op.operands]; rw [List.mem_toArray]; exact List.mem_map.2 ⟨p, hp, rfl⟩) v hv)
    rw [hlen] at h3
    rw [← h3] at h4 h5
    have mapEq : (parts.map fun (x : Nat × Operand) => match x with | (i, x) => (i, a.eval x)).toList = parts.toList.map fun p => (p.1, a.eval p.2) := by
      rw [Array.toList_map]
    have fin : ∀ cells : Array Value, cells.size = len * te.size → Instr.fill (fun i => some (i * te.size, te.size)) cells (parts.toList.map fun p => (p.1, a.eval p.2)) = some css.flatten.toArray := by
      intro cells hc
      obtain ⟨cells', h6, h7⟩ := h5 cells (by rw [hc]; simp)
      rw [h6]
      congr 1
      apply Array.ext'
      rw [h7]
      simp
      omega
    refine ⟨css, h1, h2, h4, ?_⟩
    have h24' : ¬ (16777216 < len * te.size) := by omega
    by_cases h0 : len * te.size = 0
    · have hf := fin ((Array.range 0).map fun _ => default) (by simp [h0])
      simp only [execOp, Instr.buildSlice, Sem.run_bind, run_underlying hd, Result.andThen_ok, sizeOf, typeInfo, run_program, hi, Sem.run_pure, mapEq, hs]
      simp [h0, hf, newRow]
    · have hf := fin (((Array.range (len * te.size)).map (z.cells[· % z.cells.size]!))) (by simp)
      simp only [execOp, Instr.buildSlice, Sem.run_bind, run_underlying hd, Result.andThen_ok, sizeOf, typeInfo, run_program, hi, Sem.run_pure, mapEq, hs]
      simp [h0, h24', zeroValue, typeInfo, hi, hz, hf, newRow]
  have own : ∀ {w : World} {css : List (List Value)}, (∀ cs ∈ css, cs.length = te.size) → css.length = len → RowOwn (w.alloc (.cells css.flatten.toArray el)) (.slice (some ⟨w.heap.size, 0, none⟩) len len) rows.length te.size css.flatten := by
    intro w css h2 h4
    have hfl : css.flatten.length = len * te.size := by
      rw [← h4]
      clear h4
      induction css with
      | nil => simp
      | cons c cs ih => simp only [List.flatten_cons, List.length_append, List.length_cons, Nat.add_mul, Nat.one_mul]; rw [ih (fun x hx => h2 x (by simp [hx])), h2 c (by simp)]; omega
    rw [hlen]
    refine ⟨hfl, ?_⟩
    rcases Nat.eq_zero_or_pos len with h0 | h0
    · exact .inl ⟨some ⟨w.heap.size, 0, none⟩, by rw [h0], h0⟩
    · exact .inr ⟨w.heap.size, len, _, el, rfl, h0, Go.heap_alloc_new w _, Nat.le_refl _, by simp only [maxLen]; omega, by simp only [List.size_toArray]; exact hfl, List.take_of_length_le (by show css.flatten.length ≤ _; omega)⟩
  split at h
  · rename_i trows et
    refine ⟨_, _, h, σ.ext_new _, St.wf_new σ hw _, newRow_goes hw (fun w0 O G w a _ hM hr => ?_)⟩
    obtain ⟨css, h1, h2, h4, h5⟩ := run O G w a hr
    refine ⟨_, _, _, _, h5, fun G' hφ hΦ p => ?_⟩
    obtain ⟨h6, h7⟩ := scalss_rep et h1
    refine ⟨css, [], repRows_keep _ _ _ h6 (by simp), h2, ?_, ?_⟩
    · simp only [if_true]; rw [hφ, h7]; exact ⟨own h2 h4, hΦ.2⟩
    · simp only [if_true]; rw [hΦ.1, hΦ.2]; simp
  · refine ⟨_, _, h, σ.ext_new _, St.wf_new σ hw _, newRow_goes hw (fun w0 O G w a _ hM hr => ?_)⟩
    obtain ⟨css, h1, h2, h4, h5⟩ := run O G w a hr
    refine ⟨_, _, _, _, h5, fun G' hφ hΦ p => ?_⟩
    exact ⟨css, repCss_pres p _ _ h1, h2, by rw [hφ]; exact own h2 h4, by rw [hφ, hΦ.1], by rw [hφ, hΦ.2]⟩
end
end
end Go.Vm
