/-
  Soundness of 'opB': every operation that reads memory or makes new objects.
  Soundness of 'opB': loads, make, indexes, slices, len, calls of proved functions; all of them in one theorem.
  The operations that write: a store into a box or a row of the call's own, append. What moves, moves whole.
  Soundness of the operations that write.
  Soundness of append, and of all operations that write.
  Conditions: the table of types fits the program ('TOk').
-/
import Derived.Test.YteecgbgdmfjogaaGreatVmH
import Derived.Laws.BytesString
namespace Go.Vm
open Go.RowKit

section
variable {P : Program} {E : Nat → Option TI} {vl : Operand → Option AV} {σ : St}

/-- What is claimed of each: the value and the state that the continuation got, and how a run goes. -/
def SoundB (P : Program) (vl : Operand → Option AV) (o : Oper) (σ : St) (K : AV → St → Prop) : Prop :=
  ∃ av σ', K av σ' ∧ σ.ext σ' ∧ σ'.wf ∧ GoesB P vl o σ σ' av

theorem SoundB.quiet {o : Oper} {K : AV → St → Prop} (hw : σ.wf) {av : AV} (h : K av σ)
    (hrun : ∀ (w0 : Base) O G w a, (∀ id ob, get σ.objs id = some ob → get O id = some ob) → Mem w0 O G w → OpsRep vl o.op O G w a → ∃ v, (execOp a.eval o).run P w = .ok (.value v) w ∧ av.rep O G w v) :
    SoundB P vl o σ K := ⟨av, σ, h, σ.ext_refl, hw, quiet_goes hrun⟩

theorem sound_alloc (hE : TOk P E) (hw : σ.wf) {dst : Option Tmp} {type : TypeId} {pos : String} {after : Array Edge} {guard : Option (Nat × Bool)} {t : Nat} {K : AV → St → Prop}
    (h : opB P E vl (.alloc t) σ K) : SoundB P vl ⟨dst, .alloc t, type, pos, after, guard⟩ σ K := by
  simp only [opB] at h
  obtain ⟨ti, e, h⟩ := need_some h
  refine ⟨_, _, h, σ.ext_new _, St.wf_new σ hw _, newBox_goes hw (fun O G w a _ => ?_)⟩
  obtain ⟨i, z, hi, hs, hb, hz, hzc, _⟩ := (hE t ti e).info
  refine ⟨ti.zero.map C.plain, t, plains_rep (hE t ti e).plain, ?_⟩
  simp [execOp, Instr.alloc, zeroValue, typeInfo, hi, hz, newVar, newRow, hzc]

theorem sound_box (hw : σ.wf) {dst : Option Tmp} {type : TypeId} {pos : String} {after : Array Edge} {guard : Option (Nat × Bool)} {t : Nat} {x : Operand} {K : AV → St → Prop}
    (h : opB P E vl (.box t x) σ K) : SoundB P vl ⟨dst, .box t x, type, pos, after, guard⟩ σ K := by
  simp only [opB] at h
  obtain ⟨v, e, h⟩ := need_some h
  obtain ⟨cs, e2, h⟩ := need_some h
  refine ⟨_, _, h, σ.ext_new _, St.wf_new σ hw _, newBox_goes hw (fun O G w a hr => ?_)⟩
  obtain ⟨vs, h1, h2⟩ := cellsOf_rep e2 (hr x (by simp [Op.operands]) v e)
  exact ⟨vs, t, h2, by simp [execOp, Instr.box, newVar, newRow, h1]⟩

theorem sound_build (hE : TOk P E) (hw : σ.wf) {dst : Option Tmp} {type : TypeId} {pos : String} {after : Array Edge} {guard : Option (Nat × Bool)} {t : Nat} {parts : Array (Nat × Operand)} {K : AV → St → Prop}
    (h : opB P E vl (.build t parts) σ K) : SoundB P vl ⟨dst, .build t parts, type, pos, after, guard⟩ σ K := by
  simp only [opB] at h
  obtain ⟨ti, e, h⟩ := need_some h
  generalize hk : ti.k = k0 at h
  cases k0 <;> try exact h.elim
  rename_i offs
  obtain ⟨cs, e2, h⟩ := need_some h
  refine SoundB.quiet hw h (fun w0 O G w a _ hM hr => ?_)
  obtain ⟨i, z, hi, hs, hb, hz, hzc, _⟩ := (hE t ti e).info
  obtain ⟨d, hd, _, hkk⟩ := (hE t ti e).desc
  rw [hk] at hkk
  obtain ⟨fs, rfl, hof, hss⟩ := hkk
  -- the places that the model reckons
  have hplaces : ∀ (l : List Field), (∀ f : Field, f ∈ l → ∃ i, P.info? f.type = some i ∧ i.size ≠ 0) → ∃ pl : List (Nat × Nat), (∀ w, (l.mapM (m := Sem) fun (f : Field) => do pure (f.offset, ← sizeOf f.type)).run P w = .ok pl w) ∧
      ∀ k : Nat, pl[k]? = (l[k]?).bind fun (f : Field) => (P.info? f.type).map fun i => (f.offset, i.size) := by
    intro l
    induction l with
    | nil => intro _; exact ⟨[], fun w => by simp, by simp⟩
    | cons f l ih =>
      intro hl
      obtain ⟨fi, hfi, _⟩ := hl f (by simp)
      obtain ⟨pl, h1, h2⟩ := ih (fun g hg => hl g (by simp [hg]))
      refine ⟨(f.offset, fi.size) :: pl, fun w => ?_, fun k => ?_⟩
      · have hsz : ∀ w, (sizeOf f.type).run P w = .ok fi.size w := fun w => by simp [sizeOf, typeInfo, hfi]
        simp only [List.mapM_cons, Sem.run_bind, hsz, Result.andThen_ok, Sem.run_pure, h1]
      · cases k with
        | zero => simp [hfi]
        | succ k => simpa using h2 k
  obtain ⟨pl, hpl1, hpl2⟩ := hplaces fs.toList hss
  have hfill := fillC_rep (O := O) (G := G) (w := w) hE (vl := vl) (a := a) (fun k => pl.toArray[k]?) (fun i off ty hi' ti' hti' => by
    rw [← hof, List.getElem?_map] at hi'
    cases hf : fs.toList[i]? with
    | none => rw [hf] at hi'; cases hi'
    | some f =>
      rw [hf] at hi'
      simp only [Option.map_some, Option.some.injEq, Prod.mk.injEq] at hi'
      obtain ⟨fi, hfi, _⟩ := hss f (List.mem_of_getElem? hf)
      obtain ⟨i2, z2, hi2, hs2, _⟩ := (hE ty ti' hti').info
      have : fi = i2 := by rw [hi'.2] at hfi; rw [hfi] at hi2; exact Option.some.inj hi2
      subst this
      simp [hpl2, hf, hi'.1, hfi, hs2]) e2 (fun p hp v hv => hr p.2 (by simp only [Op.operands]; rw [List.mem_toArray]; exact List.mem_map.2 ⟨p, hp, rfl⟩) v hv) (plains_rep (hE t ti e).plain)
  obtain ⟨vs, h1, h2⟩ := hfill
  refine ⟨.agg vs.toArray, ?_, by simp only [AV.rep]; exact ⟨vs, rfl, h2⟩⟩
  have hm : ∀ w, (fs.mapM (m := Sem) fun (f : Field) => do pure (f.offset, ← sizeOf f.type)).run P w = .ok pl.toArray w := fun w => by
    rw [Array.mapM_eq_mapM_toList, Sem.run_map, hpl1]
    rfl
  have hzc' : z.cells = (ti.zero.map C.plain).toArray := hzc
  simp only [execOp, Instr.build, Sem.run_bind, zeroValue, typeInfo, run_program, Result.andThen_ok, hi, hz, Sem.run_pure, run_underlying hd, hm, hzc', Array.toList_map]
  have e3 : (parts.toList.map fun p => (p.1, a.eval p.2)) = parts.toList.map (fun (x : Nat × Operand) => match x with | (i, x) => (i, a.eval x)) := List.map_congr_left (fun p _ => rfl)
  rw [← e3, h1]
  rfl

section
variable {dst : Option Tmp} {type : TypeId} {pos : String} {after : Array Edge} {guard : Option (Nat × Bool)} {K : AV → St → Prop}

theorem sound_buildSlice (hE : TOk P E) (hw : σ.wf) {t len : Nat} {parts : Array (Nat × Operand)}
    (h : opB P E vl (.buildSlice t len parts) σ K) : SoundB P vl ⟨dst, .buildSlice t len parts, type, pos, after, guard⟩ σ K := by
  simp only [opB] at h
  obtain ⟨ti, e, h⟩ := need_some h
  generalize hk : ti.k = k0 at h
  cases k0 <;> try exact h.elim
  rename_i el
  obtain ⟨te, ee, h⟩ := need_some h
  obtain ⟨rows, er, h⟩ := need_some h
  obtain ⟨⟨hlen, h24, h24b⟩, h⟩ := h
  obtain ⟨d, hd, _, hkk⟩ := (hE t ti e).desc
  rw [hk] at hkk
  simp only [TKok] at hkk
  subst hkk
  obtain ⟨i, z, hi, hs, hb, hz, hzc, hzs⟩ := (hE el te ee).info
  have run : ∀ (O : List (Nat × Ob)) (G : Gh) (w : World) (a : Act), OpsRep vl (Op.buildSlice t len parts) O G w a → ∃ css, repCss O G w rows css ∧ (∀ cs ∈ css, cs.length = te.size) ∧ css.length = len ∧
      (execOp a.eval ⟨dst, .buildSlice t len parts, type, pos, after, guard⟩).run P w = .ok (.value (.slice (some ⟨w.heap.size, 0, none⟩) len len)) (w.alloc (.cells css.flatten.toArray el)) := by
    intro O G w a hr
    obtain ⟨css, h1, h2, h3, h4, h5⟩ := rowsC_rep (O := O) (G := G) (w := w) (a := a) er (fun p hp v hv => hr p.2 (by simp only [Op.operands]; rw [List.mem_toArray]; exact List.mem_map.2 ⟨p, hp, rfl⟩) v hv)
    rw [hlen] at h3
    rw [← h3] at h4 h5
    have mapEq : (parts.map fun (x : Nat × Operand) => match x with | (i, x) => (i, a.eval x)).toList = parts.toList.map fun p => (p.1, a.eval p.2) := by
      rw [Array.toList_map]
    have fin : ∀ cells : Array Value, cells.size = len * te.size → Instr.fill (fun i => some (i * te.size, te.size)) cells (parts.toList.map fun p => (p.1, a.eval p.2)) = some css.flatten.toArray := by
      intro cells hc
      obtain ⟨cells', h6, h7⟩ := h5 cells (by rw [hc]; simp)
      rw [h6]
      congr 1
      apply Array.ext'
      rw [h7]
      simp
      omega
    refine ⟨css, h1, h2, h4, ?_⟩
    have h24' : ¬ (16777216 < len * te.size) := by omega
    by_cases h0 : len * te.size = 0
    · have hf := fin ((Array.range 0).map fun _ => default) (by simp [h0])
      simp only [execOp, Instr.buildSlice, Sem.run_bind, run_underlying hd, Result.andThen_ok, sizeOf, typeInfo, run_program, hi, Sem.run_pure, mapEq, hs]
      simp [h0, hf, newRow]
    · have hf := fin (((Array.range (len * te.size)).map (z.cells[· % z.cells.size]!))) (by simp)
      simp only [execOp, Instr.buildSlice, Sem.run_bind, run_underlying hd, Result.andThen_ok, sizeOf, typeInfo, run_program, hi, Sem.run_pure, mapEq, hs]
      simp [h0, h24', zeroValue, typeInfo, hi, hz, hf, newRow]
  have own : ∀ {w : World} {css : List (List Value)}, (∀ cs ∈ css, cs.length = te.size) → css.length = len → RowOwn (w.alloc (.cells css.flatten.toArray el)) (.slice (some ⟨w.heap.size, 0, none⟩) len len) rows.length te.size css.flatten := by
    intro w css h2 h4
    have hfl : css.flatten.length = len * te.size := by
      rw [← h4]
      clear h4
      induction css with
      | nil => simp
      | cons c cs ih => simp only [List.flatten_cons, List.length_append, List.length_cons, Nat.add_mul, Nat.one_mul]; rw [ih (fun x hx => h2 x (by simp [hx])), h2 c (by simp)]; omega
    rw [hlen]
    refine ⟨hfl, ?_⟩
    rcases Nat.eq_zero_or_pos len with h0 | h0
    · exact .inl ⟨some ⟨w.heap.size, 0, none⟩, by rw [h0], h0⟩
    · exact .inr ⟨w.heap.size, 0, len, _, el, rfl, h0, Go.heap_alloc_new w _, Nat.le_refl _, by simp only [maxLen]; omega, by simp only [List.size_toArray, Nat.zero_add]; exact hfl, List.take_of_length_le (by show css.flatten.length ≤ _; omega)⟩
  split at h
  · rename_i trows et
    refine ⟨_, _, h, σ.ext_new _, St.wf_new σ hw _, newRow_goes hw (fun w0 O G w a _ hM hr => ?_)⟩
    obtain ⟨css, h1, h2, h4, h5⟩ := run O G w a hr
    refine ⟨_, _, _, _, h5, fun G' hφ hΦ p => ?_⟩
    obtain ⟨h6, h7⟩ := scalss_rep et h1
    refine ⟨css, [], repRows_keep _ _ _ h6 (by simp), h2, ?_, ?_⟩
    · simp only [if_true]; rw [hφ, h7]; exact ⟨own h2 h4, hΦ.2⟩
    · simp only [if_true]; rw [hΦ.1, hΦ.2]; simp
  · refine ⟨_, _, h, σ.ext_new _, St.wf_new σ hw _, newRow_goes hw (fun w0 O G w a _ hM hr => ?_)⟩
    obtain ⟨css, h1, h2, h4, h5⟩ := run O G w a hr
    refine ⟨_, _, _, _, h5, fun G' hφ hΦ p => ?_⟩
    exact ⟨css, repCss_pres p _ _ h1, h2, by rw [hφ]; exact own h2 h4, by rw [hφ, hΦ.1], by rw [hφ, hΦ.2]⟩
end
end
end Go.Vm

namespace Go.Vm
open Go.RowKit

section
variable {P : Program} {E : Nat → Option TI} {vl : Operand → Option AV} {σ : St}
variable {dst : Option Tmp} {type : TypeId} {pos : String} {after : Array Edge} {guard : Option (Nat × Bool)} {K : AV → St → Prop}

theorem run_load_op {t : TypeId} {x : Operand} {a : Act} {w : World} {ad : Addr} {v : Value} (hx : a.eval x = .pointer (some ad)) (hr : (loadVar t ad).run P w = .ok v w) :
    (execOp a.eval ⟨dst, .load t x, type, pos, after, guard⟩).run P w = .ok (.value v) w := by
  simp [execOp, Instr.loadAt, Instr.sureAddr, hx, hr]

theorem sound_load (hE : TOk P E) (hw : σ.wf) {t : Nat} {x : Operand}
    (h : opB P E vl (.load t x) σ K) : SoundB P vl ⟨dst, .load t x, type, pos, after, guard⟩ σ K := by
  simp only [opB] at h
  have h' := need_some h; clear h
  obtain ⟨ti, e, h⟩ := h'
  have h' := need_some h; clear h
  obtain ⟨v, ev, h⟩ := h'
  have hx : x ∈ (Op.load t x).operands := by simp [Op.operands]
  split at h
  · rename_i id off
    have h' := need_some h; clear h
    obtain ⟨ob, eo, h⟩ := h'
    split at h
    · rename_i cs
      obtain ⟨av, hK, hr⟩ := loadC_sound (hE t ti e) h
      refine SoundB.quiet hw hK (fun w0 O G w a hsub hM hops => ?_)
      have hv := hops x hx _ ev
      simp only [AV.rep] at hv
      obtain ⟨h1, ad, h2, h3⟩ := hv
      obtain ⟨g, vs, el, h4, h5, h6, h7⟩ := hM.obs id _ h1 (hsub _ _ eo)
      rw [h2] at h4
      injection h4 with h4
      injection h4 with h4
      subst h4
      obtain ⟨u, h8, h9⟩ := hr O G w _ vs h6 (box_cells h5)
      exact ⟨u, run_load_op h3 h8, h9⟩
    · exact h.elim
  · rename_i id sz i off
    have h' := need_some h; clear h
    obtain ⟨ob, eo, h⟩ := h'
    split at h
    · rename_i own app sz' rows
      obtain ⟨rfl, cs, hcs, h⟩ := h
      obtain ⟨av, hK, hr⟩ := loadT_sound (hE t ti e) h
      refine SoundB.quiet hw hK (fun w0 O G w a hsub hM hops => ?_)
      have hv := hops x hx _ ev
      simp only [AV.rep] at hv
      obtain ⟨h1, ad, n, c, h2, h3⟩ := hv
      obtain ⟨css, F', h4, h5, h6, h7⟩ := hM.row h1 (hsub _ _ eo)
      obtain ⟨vs, F1, h8, h9, h10⟩ := repRows_get h4 i cs hcs
      obtain ⟨A, c', h11, _, h12⟩ := h6
      have hlt : 0 < rows.length := by have := (List.getElem?_eq_some_iff.1 hcs).1; omega
      obtain ⟨ad', h13, _, h14⟩ := h12 hlt
      rw [h2] at h11
      injection h11 with h15 _ _
      rw [h13] at h15
      injection h15 with h15
      subst h15
      obtain ⟨u, h16, h17⟩ := hr O G w (ad.add (i * sz)) vs F1 h9 (h7.sub h10) (fun j u hu => by rw [add_of_add]; exact h14 i vs h8 j u hu)
      rw [add_of_add] at h16
      exact ⟨u, run_load_op h3 h16, h17⟩
    · rename_i sz' rows
      obtain ⟨rfl, cs, hcs, h⟩ := h
      obtain ⟨av, hK, hr⟩ := loadC_sound (hE t ti e) h
      refine SoundB.quiet hw hK (fun w0 O G w a hsub hM hops => ?_)
      have hv := hops x hx _ ev
      simp only [AV.rep] at hv
      obtain ⟨h1, ad, n, c, h2, h3⟩ := hv
      obtain ⟨css, h4, h5, h6⟩ := hM.tmp h1 (hsub _ _ eo)
      obtain ⟨vs, h8, h9⟩ := repCss_get h4 i cs hcs
      obtain ⟨A, c', h11, _, h12⟩ := h6
      have hlt : 0 < rows.length := by have := (List.getElem?_eq_some_iff.1 hcs).1; omega
      obtain ⟨ad', h13, _, h14⟩ := h12 hlt
      rw [h2] at h11
      injection h11 with h15 _ _
      rw [h13] at h15
      injection h15 with h15
      subst h15
      obtain ⟨u, h16, h17⟩ := hr O G w (ad.add (i * sz)) vs h9 (fun j u hu => by rw [add_of_add]; exact h14 i vs h8 j u hu)
      rw [add_of_add] at h16
      exact ⟨u, run_load_op h3 h16, h17⟩
    · exact h.elim
  · rename_i cells off
    obtain ⟨av, hK, hr⟩ := loadT_sound (hE t ti e) h
    refine SoundB.quiet hw hK (fun w0 O G w a hsub hM hops => ?_)
    have hv := hops x hx _ ev
    simp only [AV.rep] at hv
    obtain ⟨ad, cs, F, h1, h2, h3, h4, h5⟩ := hv
    obtain ⟨u, h6, h7⟩ := hr O G w ad cs F h2 (h3.sub (by simp +contextual)) h5
    exact ⟨u, run_load_op h1 h6, h7⟩
  · rename_i cells
    obtain ⟨av, hK, hr⟩ := loadT_sound (hE t ti e) h
    refine SoundB.quiet hw hK (fun w0 O G w a hsub hM hops => ?_)
    obtain ⟨F0, hv, him⟩ := hops x hx _ ev
    simp only [T.rep] at hv
    obtain ⟨ad, cs, F, h1, h2, rfl, h3, h5⟩ := hv
    obtain ⟨u, h6, h7⟩ := hr O G w ad cs F h3 (him.sub (by simp +contextual)) h5
    rw [addr_add0] at h6
    exact ⟨u, run_load_op h1 h6, h7⟩
  · exact h.elim

theorem sound_makeSlice (hE : TOk P E) (hw : σ.wf) {t : Nat} {l c : Operand}
    (h : opB P E vl (.makeSlice t l c) σ K) : SoundB P vl ⟨dst, .makeSlice t l c, type, pos, after, guard⟩ σ K := by
  simp only [opB] at h
  have h' := need_some h; clear h
  obtain ⟨ti, e, h⟩ := h'
  generalize hk : ti.k = k0 at h
  cases k0 <;> try exact h.elim
  rename_i el
  have h' := need_some h; clear h
  obtain ⟨te, ee, h⟩ := h'
  have h' := need_some h; clear h
  obtain ⟨v, ev, h⟩ := h'
  split at h
  · rename_i kl n
    have h' := need_some h; clear h
    obtain ⟨v', ev', h⟩ := h'
    split at h
    · rename_i kc n'
      obtain ⟨m, ⟨rfl, rfl⟩, ⟨hb1, hb2⟩, h⟩ := h
      obtain ⟨d, hd, _, hkk⟩ := (hE t ti e).desc
      rw [hk] at hkk
      simp only [TKok] at hkk
      subst hkk
      obtain ⟨i, z, hi, hs, hb, hz, hzc, hzs⟩ := (hE el te ee).info
      refine ⟨_, _, h, σ.ext_new _, St.wf_new σ hw _, newRow_goes hw (fun w0 O G w a _ hM hr => ?_)⟩
      have h1 := int_of (hr l (by simp [Op.operands]) _ ev)
      have h2 := int_of (hr c (by simp [Op.operands]) _ ev')
      have hrun := run_make (P := P) w t el i z hd hi hz kl kc (m : Int) (m : Int) (by omega) (Int.le_refl _) (by
        rw [hb]
        have : ((te.bytes * m : Nat) : Int) ≤ 281474976710656 := by rw [Nat.mul_comm]; omega
        rwa [Int.natCast_mul] at this) (by omega)
      simp only [Int.toNat_natCast] at hrun
      refine ⟨madeCells z.cells (m * i.size), el, m, m, by simp [execOp, h1, h2, hrun], fun G' hφ hΦ p => ?_⟩
      have hz1 : z.cells.toList = te.zero.map C.plain := by rw [hzc]
      have hcur : (madeCells z.cells (m * i.size)).toList = (List.replicate m (te.zero.map C.plain)).flatten := by rw [hs, ← hzs, made_flat, hz1]
      have hzl : (te.zero.map C.plain).length = te.size := by rw [← hz1]; simpa using hzs
      refine ⟨List.replicate m (te.zero.map C.plain), [], repRows_replicate (zeros_rep (hE el te ee).plain) m, ?_, ?_, ?_⟩
      · intro cs hcs
        rw [(List.mem_replicate.1 hcs).2]
        exact hzl
      · simp only [if_true]
        rw [hφ]
        have hfl : (List.replicate m (te.zero.map C.plain)).flatten.length = m * te.size := by
          rw [← hcur]
          simp [size_madeCells, hs]
        refine ⟨⟨by simpa using hfl, ?_⟩, hΦ.2⟩
        rcases Nat.eq_zero_or_pos m with h0 | h0
        · subst h0
          exact .inl ⟨_, rfl, by simp⟩
        · refine .inr ⟨w.heap.size, 0, m, _, el, by simp, h0, Go.heap_alloc_new w _, by simp, by simp only [maxLen]; omega, by rw [size_madeCells, hs, Nat.zero_add], ?_⟩
          rw [hcur, List.drop_zero]
          exact List.take_of_length_le (by simp only [List.length_replicate]; omega)
      · simp only [if_true]
        rw [hΦ.1, hΦ.2]
        simp
    · exact h.elim
  · exact h.elim

theorem sound_indexAddr (hE : TOk P E) (hw : σ.wf) {t : Nat} {x i : Operand}
    (h : opB P E vl (.indexAddr t x i) σ K) : SoundB P vl ⟨dst, .indexAddr t x i, type, pos, after, guard⟩ σ K := by
  simp only [opB] at h
  have h' := need_some h; clear h
  obtain ⟨ti, e, h⟩ := h'
  generalize hk : ti.k = k0 at h
  cases k0 <;> try exact h.elim
  rename_i el
  have h' := need_some h; clear h
  obtain ⟨te, ee, h⟩ := h'
  have h' := need_some h; clear h
  obtain ⟨vi, evi, h⟩ := h'
  obtain ⟨d, hd, _, hkk⟩ := (hE t ti e).desc
  rw [hk] at hkk
  simp only [TKok] at hkk
  subst hkk
  obtain ⟨inf, z, hi, hs, _⟩ := (hE el te ee).info
  have hx : x ∈ (Op.indexAddr t x i).operands := by simp [Op.operands]
  have hxi : i ∈ (Op.indexAddr t x i).operands := by simp [Op.operands]
  split at h
  · rename_i k n
    have h' := need_some h; clear h
    obtain ⟨v, ev, h⟩ := h'
    split at h
    · rename_i id
      have h' := need_some h; clear h
      obtain ⟨ob, eo, h⟩ := h'
      split at h
      · rename_i own app sz rows
        obtain ⟨hsz, j, rfl, hj, h⟩ := h
        refine SoundB.quiet hw h (fun w0 O G w a hsub hM hops => ?_)
        obtain ⟨h1, h2, _⟩ := hops x hx _ ev
        obtain ⟨css, F', h4, h5, h6, h7⟩ := hM.row h1 (hsub _ _ eo)
        obtain ⟨A, c', h11, _, h12⟩ := h6
        obtain ⟨ad, h13, _⟩ := h12 (by omega)
        rw [h13] at h11
        refine ⟨.pointer (some (ad.add (j * sz))), ?_, ?_⟩
        · have hr := run_indexAt (P := P) hd hi ad rows.length c' k j hj w
          rw [hs, hsz] at hr
          simp [execOp, int_of (hops i hxi _ evi), h2, h11, hr]
        · simp only [AV.rep]
          exact ⟨h1, ad, _, _, h11, rfl⟩
      · rename_i sz rows
        obtain ⟨hsz, j, rfl, hj, h⟩ := h
        refine SoundB.quiet hw h (fun w0 O G w a hsub hM hops => ?_)
        obtain ⟨h1, h2, _⟩ := hops x hx _ ev
        obtain ⟨css, h4, h5, h6⟩ := hM.tmp h1 (hsub _ _ eo)
        obtain ⟨A, c', h11, _, h12⟩ := h6
        obtain ⟨ad, h13, _⟩ := h12 (by omega)
        rw [h13] at h11
        refine ⟨.pointer (some (ad.add (j * sz))), ?_, ?_⟩
        · have hr := run_indexAt (P := P) hd hi ad rows.length c' k j hj w
          rw [hs, hsz] at hr
          simp [execOp, int_of (hops i hxi _ evi), h2, h11, hr]
        · simp only [AV.rep]
          exact ⟨h1, ad, _, _, h11, rfl⟩
      · exact h.elim
    · rename_i rows
      obtain ⟨j, cs, rfl, hj, hl, h⟩ := h
      refine SoundB.quiet hw h (fun w0 O G w a hsub hM hops => ?_)
      obtain ⟨F, h1, him⟩ := hops x hx _ ev
      simp only [T.rep] at h1
      obtain ⟨A, c, h2, h3, h4⟩ := h1
      have hjl := (List.getElem?_eq_some_iff.1 hj).1
      rcases h4 with ⟨rfl, _⟩ | ⟨ad, css, F', sz, hne, rfl, hlt, rfl, hrr, hg⟩
      · simp at hjl
      · obtain ⟨vs, F1, h5, h6, h7⟩ := repRows_get hrr j cs hj
        obtain ⟨h8, h9⟩ := hg j vs h5
        have hsz : sz = te.size := by rw [← h8, repCells_length h6, hl]
        refine ⟨.pointer (some (ad.add (j * sz))), ?_, ?_⟩
        · have hr := run_indexAt (P := P) hd hi ad rows.length c k j hjl w
          rw [hs, ← hsz] at hr
          simp [execOp, int_of (hops i hxi _ evi), h2, hr]
        · simp only [AV.rep]
          refine ⟨ad.add (j * sz), vs, F1, by rw [addr_add0], h6, ?_, by rw [block_of_add]; exact hlt, fun q u hu => by rw [add_of_add]; exact h9 q u hu⟩
          rw [block_of_add]
          exact him.sub (fun b hb => by rcases List.mem_cons.1 hb with rfl | hb <;> simp_all)
    · rename_i id sz lo hi'
      obtain ⟨hsz, j, rfl, hj, h⟩ := h
      refine SoundB.quiet hw h (fun w0 O G w a hsub hM hops => ?_)
      obtain ⟨h1, h2, A, c, h3, _, h4⟩ := hops x hx _ ev
      obtain ⟨ad, n', c', h5, rfl, _⟩ := h4 (by omega)
      refine ⟨.pointer (some ((ad.add (lo * sz)).add (j * sz))), ?_, ?_⟩
      · have hr := run_indexAt (P := P) hd hi (ad.add (lo * sz)) (hi' - lo) c k j hj w
        rw [hs, hsz] at hr
        simp [execOp, int_of (hops i hxi _ evi), h3, hr]
      · simp only [AV.rep]
        exact ⟨h1, ad, _, _, h5, by rw [add_of_add, ← Nat.add_mul, Nat.add_zero]⟩
    · exact h.elim
  · exact h.elim

theorem sound_len (hE : TOk P E) (hw : σ.wf) {args : Array Operand} {argTypes : Array TypeId}
    (h : opB P E vl (.call { callee := .builtin .len, args, argTypes }) σ K) : SoundB P vl ⟨dst, .call { callee := .builtin .len, args, argTypes }, type, pos, after, guard⟩ σ K := by
  obtain ⟨args⟩ := args
  obtain ⟨argTypes⟩ := argTypes
  simp only [opB] at h
  split at h
  · rename_i x t
    have h' := need_some h; clear h
    obtain ⟨ti, e, h⟩ := h'
    generalize hk : ti.k = k0 at h
    cases k0 <;> try exact h.elim
    rename_i el
    have h' := need_some h; clear h
    obtain ⟨v, ev, h⟩ := h'
    obtain ⟨d, hd, _, hkk⟩ := (hE t ti e).desc
    rw [hk] at hkk
    simp only [TKok] at hkk
    subst hkk
    have run : ∀ (a : Act) (w : World) A n c, a.eval x = .slice A n c →
        (execOp a.eval ⟨dst, .call { callee := .builtin .len, args := ⟨[x]⟩, argTypes := ⟨[t]⟩ }, type, pos, after, guard⟩).run P w = .ok (.value (.int .i64 (n : Int))) w := fun a w A n c hx => by
      simp [execOp, resolve, invoke, builtin, Builtin.len_, run_underlying hd, hx, goInt]
    have hx : x ∈ (Op.call { callee := .builtin .len, args := ⟨[x]⟩, argTypes := ⟨[t]⟩ }).operands := by simp [Op.operands, Call.operands]
    split at h
    · refine SoundB.quiet hw h (fun w0 O G w a hsub hM hops => ?_)
      have hv := hops x hx _ ev
      exact ⟨_, run a w _ _ _ hv, vint_rep _ _⟩
    · refine SoundB.quiet hw h (fun w0 O G w a hsub hM hops => ?_)
      obtain ⟨A, hv⟩ := hops x hx _ ev
      exact ⟨_, run a w _ _ _ hv, vint_rep _ _⟩
    · refine SoundB.quiet hw h (fun w0 O G w a hsub hM hops => ?_)
      obtain ⟨F, hv, _⟩ := hops x hx _ ev
      simp only [T.rep] at hv
      obtain ⟨A, c, hv, _⟩ := hv
      exact ⟨_, run a w _ _ _ hv, vint_rep _ _⟩
    · refine SoundB.quiet hw h (fun w0 O G w a hsub hM hops => ?_)
      obtain ⟨_, _, A, c, hv, _⟩ := hops x hx _ ev
      exact ⟨_, run a w _ _ _ hv, vint_rep _ _⟩
    · have h' := need_some h; clear h
      obtain ⟨ob, eo, h⟩ := h'
      split at h
      · refine SoundB.quiet hw h (fun w0 O G w a hsub hM hops => ?_)
        obtain ⟨h1, h2, _⟩ := hops x hx _ ev
        obtain ⟨css, F', h4, h5, h6, h7⟩ := hM.row h1 (hsub _ _ eo)
        obtain ⟨A, c', h11, _, h12⟩ := h6
        exact ⟨_, run a w _ _ _ (h2.trans h11), vint_rep _ _⟩
      · refine SoundB.quiet hw h (fun w0 O G w a hsub hM hops => ?_)
        obtain ⟨h1, h2, _⟩ := hops x hx _ ev
        obtain ⟨css, h4, h5, h6⟩ := hM.tmp h1 (hsub _ _ eo)
        obtain ⟨A, c', h11, _, h12⟩ := h6
        exact ⟨_, run a w _ _ _ (h2.trans h11), vint_rep _ _⟩
      · exact h.elim
    · exact h.elim
  · exact h.elim

theorem sound_slice (hE : TOk P E) (hw : σ.wf) {t : Nat} {x : Operand} {lo hi mx : Option Operand}
    (h : opB P E vl (.slice t x lo hi mx) σ K) : SoundB P vl ⟨dst, .slice t x lo hi mx, type, pos, after, guard⟩ σ K := by
  have hx : x ∈ (Op.slice t x lo hi mx).operands := by simp [Op.operands]
  have hlo : ∀ y, lo = some y → y ∈ (Op.slice t x lo hi mx).operands := fun y hy => by subst hy; simp [Op.operands]
  have hhi : ∀ y, hi = some y → y ∈ (Op.slice t x lo hi mx).operands := fun y hy => by subst hy; simp [Op.operands]
  have hmx : ∀ y, mx = some y → y ∈ (Op.slice t x lo hi mx).operands := fun y hy => by subst hy; simp [Op.operands]
  have bnd : ∀ {O G w a}, OpsRep vl (Op.slice t x lo hi mx) O G w a → ∀ (q : Option Operand) (l d : Nat), (∀ y, q = some y → y ∈ (Op.slice t x lo hi mx).operands) →
      (match q with | some y => vl y = some (vint .i64 (l : Int)) | none => l = d) → q.map a.eval = some (.int .i64 (l : Int)) ∨ (q.map a.eval = none ∧ l = d) := by
    intro O G w a hops q l d hq h
    cases q with
    | none => exact .inr ⟨rfl, h⟩
    | some y => exact .inl (by rw [Option.map_some, int_of (hops y (hq y rfl) _ h)])
  cases mx with
  | none =>
    simp only [opB] at h
    have h' := need_some h; clear h
    obtain ⟨ti, e, h⟩ := h'
    generalize hk : ti.k = k0 at h
    cases k0 <;> try exact h.elim
    rename_i el
    have h' := need_some h; clear h
    obtain ⟨te, ee, h⟩ := h'
    have h' := need_some h; clear h
    obtain ⟨v, ev, h⟩ := h'
    obtain ⟨d, hd, _, hkk⟩ := (hE t ti e).desc
    rw [hk] at hkk
    simp only [TKok] at hkk
    subst hkk
    obtain ⟨inf, z, hi', hs, _⟩ := (hE el te ee).info
    split at h
    · rename_i rows
      obtain ⟨l, hh, h1, h2, ⟨h3, h4⟩, h5, h⟩ := h
      refine SoundB.quiet hw h (fun w0 O G w a hsub hM hops => ?_)
      have b1 := bnd hops lo l 0 hlo (by cases lo <;> exact h1)
      have b2 := bnd hops hi hh rows.length hhi (by cases hi <;> exact h2)
      obtain ⟨F, h6, him⟩ := hops x hx _ ev
      simp only [T.rep] at h6
      obtain ⟨A, c, h7, h8, h9⟩ := h6
      have hr := run_slice (P := P) hd hi' A rows.length c l hh h3 h4 h8 w (lo.map a.eval) (hi.map a.eval) b1 b2
      refine ⟨_, by simp only [execOp, Option.map_none, h7]; rw [Sem.run_bind, hr]; rfl, ?_⟩
      have hlen : ((rows.take hh).drop l).length = hh - l := by simp; omega
      rcases Nat.lt_or_ge l hh with hlt | hge
      · rcases h9 with ⟨rfl, _⟩ | ⟨ad, css, F', sz, hne, rfl, hlt', rfl, hrr, hg⟩
        · simp at h4; omega
        · obtain ⟨F1, h10, h11⟩ := repRows_take hh hrr
          obtain ⟨F2, h12, h13⟩ := repRows_drop l h10
          have hsz : sz = te.size := by
            cases rows with
            | nil => simp at h4; omega
            | cons r rs =>
              obtain ⟨vs, F3, h14, h15, _⟩ := repRows_get hrr 0 r (by simp)
              rw [← (hg 0 vs h14).1, repCells_length h15, h5 r (by simp)]
          refine ⟨ad.block :: F2, ?_, him.sub (fun b hb => by
            rcases List.mem_cons.1 hb with rfl | hb
            · simp
            · simp [h11 b (h13 b hb)])⟩
          simp only [T.rep]
          refine ⟨some (ad.add (l * inf.size)), c - l, ?_, by rw [hlen]; omega, .inr ⟨ad.add (l * inf.size), (css.take hh).drop l, F2, sz, ?_, rfl, by rw [block_of_add]; exact hlt', by rw [block_of_add], h12, fun i cs hi2 => ?_⟩⟩
          · rw [hlen, if_neg (by omega)]; rfl
          · intro e0; rw [e0] at hlen; simp at hlen; omega
          · rw [List.getElem?_drop] at hi2
            have hlt2 : l + i < hh := by have := (List.getElem?_eq_some_iff.1 hi2).1; simp at this; omega
            rw [List.getElem?_take_of_lt hlt2] at hi2
            obtain ⟨h16, h17⟩ := hg (l + i) cs hi2
            refine ⟨h16, fun j u hu => ?_⟩
            rw [add_of_add, hs, ← hsz, ← Nat.add_assoc, ← Nat.add_mul]
            exact h17 j u hu
      · refine ⟨[], ?_, him.sub (by simp)⟩
        simp only [T.rep]
        have hnil : (rows.take hh).drop l = [] := List.eq_nil_of_length_eq_zero (by rw [hlen]; omega)
        rw [hnil]
        exact ⟨_, c - l, by rw [show hh - l = 0 by omega]; rfl, by simp, .inl (by simp)⟩
    · rename_i id
      have h' := need_some h; clear h
      obtain ⟨ob, eo, h⟩ := h'
      split at h
      · rename_i own app sz rows
        obtain ⟨hsz, l, hh, h1, h2, ⟨h3, h4⟩, h⟩ := h
        refine SoundB.quiet hw h (fun w0 O G w a hsub hM hops => ?_)
        have b1 := bnd hops lo l 0 hlo (by cases lo <;> exact h1)
        have b2 := bnd hops hi hh rows.length hhi (by cases hi <;> exact h2)
        obtain ⟨h5, h6, _⟩ := hops x hx _ ev
        obtain ⟨css, F', h7, h8, h9, h10⟩ := hM.row h5 (hsub _ _ eo)
        obtain ⟨A, c, h11, h12, h13⟩ := h9
        have hr := run_slice (P := P) hd hi' A rows.length c l hh h3 h4 h12 w (lo.map a.eval) (hi.map a.eval) b1 b2
        refine ⟨_, by simp only [execOp, Option.map_none, h6.trans h11]; rw [Sem.run_bind, hr]; rfl, ?_⟩
        refine ⟨h5, h3, _, _, rfl, by omega, fun hlt => ?_⟩
        obtain ⟨ad, rfl, _⟩ := h13 (by omega)
        exact ⟨ad, _, _, h11, by rw [if_neg (by omega), hs, hsz]; rfl, h4, by omega⟩
      · exact h.elim
    · exact h.elim
  | some m =>
    cases lo with
    | some y => simp [opB] at h
    | none =>
    cases hi with
    | none => simp [opB] at h
    | some y =>
    simp only [opB] at h
    have h' := need_some h; clear h
    obtain ⟨ti, e, h⟩ := h'
    generalize hk : ti.k = k0 at h
    cases k0 <;> try exact h.elim
    rename_i el
    have h' := need_some h; clear h
    obtain ⟨te, ee, h⟩ := h'
    have h' := need_some h; clear h
    obtain ⟨v, ev, ⟨h1, h2⟩, h⟩ := h'
    obtain ⟨d, hd, _, hkk⟩ := (hE t ti e).desc
    rw [hk] at hkk
    simp only [TKok] at hkk
    subst hkk
    obtain ⟨inf, z, hi', hs, _⟩ := (hE el te ee).info
    have run : ∀ {O G w a}, OpsRep vl (Op.slice t x none (some y) (some m)) O G w a → ∀ A n c, a.eval x = .slice A n c →
        (execOp a.eval ⟨dst, .slice t x none (some y) (some m), type, pos, after, guard⟩).run P w = .ok (.value (.slice A 0 0)) w := by
      intro O G w a hops A n c hv
      have e1 := int_of (hops y (hhi y rfl) _ h1)
      have e2 := int_of (hops m (hmx m rfl) _ h2)
      simp [execOp, hv, e1, e2, Instr.sliceAt, Instr.slice, Instr.sliceBounds, Instr.sliceBound, asIntOf, run_underlying hd, sizeOf, typeInfo, hi']
    split at h
    · refine SoundB.quiet hw h (fun w0 O G w a hsub hM hops => ?_)
      obtain ⟨F, h6, him⟩ := hops x hx _ ev
      simp only [T.rep] at h6
      obtain ⟨A, c, h7, _⟩ := h6
      exact ⟨_, run hops _ _ _ h7, A, rfl⟩
    · refine SoundB.quiet hw h (fun w0 O G w a hsub hM hops => ?_)
      have h6 := hops x hx _ ev
      exact ⟨_, run hops _ _ _ h6, none, rfl⟩
    · rename_i id
      have h' := need_some h; clear h
      obtain ⟨ob, eo, h⟩ := h'
      split at h
      · refine SoundB.quiet hw h (fun w0 O G w a hsub hM hops => ?_)
        obtain ⟨h5, h6, _⟩ := hops x hx _ ev
        obtain ⟨css, F', h7, h8, h9, h10⟩ := hM.row h5 (hsub _ _ eo)
        obtain ⟨A, c, h11, _⟩ := h9
        exact ⟨_, run hops _ _ _ (h6.trans h11), A, rfl⟩
      · exact h.elim
    · exact h.elim

/-- A proved function, called. -/
theorem callee_rep {O : List (Nat × Ob)} {G : Gh} {w : World} {w0 : Base} (hM : Mem w0 O G w) {f : Operand} {fe : FuncId × List V} (h : callee vl O f = some fe) {a : Act} (hr : ∀ v, vl f = some v → v.rep O G w (a.eval f)) :
    ∃ caps : List Value, a.eval f = .func (.func fe.1) #[] caps.toArray ∧ repVs w fe.2 caps := by
  unfold callee at h
  split at h
  · rename_i fid ids e
    split at h
    · rename_i bs e2
      injection h with h
      subst h
      obtain ⟨h1, h2⟩ := hr _ e
      obtain ⟨F, h3⟩ := boxTs_sound hM e2 h2
      exact ⟨_, h1, repVs_ones h3⟩
    · cases h
  · rename_i fid caps e
    injection h with h
    subst h
    obtain ⟨F, h1, _⟩ := hr _ e
    simp only [T.rep] at h1
    obtain ⟨vs, h2, h3⟩ := h1
    exact ⟨vs, h2, repVs_ones h3⟩
  · cases h

theorem run_call {f : FuncId} (hf : Enter P f) {fo : Operand} {args : Array Operand} {argTypes : Array TypeId} {a : Act} {caps : List Value} (he : a.eval fo = .func (.func f) #[] caps.toArray) (w : World) :
    (execOp a.eval ⟨dst, .call { callee := .value fo, args, argTypes }, type, pos, after, guard⟩).run P w = .ok (.enter f ((args.toList.map a.eval ++ caps).toArray)) w := by
  obtain ⟨fn, c, h1, h2, h3⟩ := hf
  have e : (Array.map a.eval args) ++ caps.toArray = (args.toList.map a.eval ++ caps).toArray := by
    apply Array.ext'
    simp
  have h3' : ¬ fn.name = "runtime.NumGoroutine" := by simpa using h3
  simp [execOp, resolve, he, Deferred.ofValue, invoke, callFunc, h1, h2, h3', e]

theorem impC_st (σ : St) : ∀ x : RC, σ.ext (impC σ x).2 ∧ (σ.wf → (impC σ x).2.wf)
  | .s _ => ⟨σ.ext_refl, id⟩
  | .l _ _ => ⟨σ.ext_new _, fun h => St.wf_new σ h _⟩
  | .w _ _ => ⟨σ.ext_new _, fun h => St.wf_new σ h _⟩
theorem impCs_st : ∀ (xs : List RC) (σ : St), σ.ext (impCs σ xs).2 ∧ (σ.wf → (impCs σ xs).2.wf)
  | [], σ => ⟨σ.ext_refl, id⟩
  | x :: xs, σ => ⟨St.ext_trans (impC_st σ x).1 (impCs_st xs _).1, fun h => (impCs_st xs _).2 ((impC_st σ x).2 h)⟩
theorem impV_st (σ : St) : ∀ x : RV, σ.ext (impV σ x).2 ∧ (σ.wf → (impV σ x).2.wf)
  | .one x => impC_st σ x
  | .agg xs => impCs_st xs σ
theorem impVs_st : ∀ (xs : List RV) (σ : St), σ.ext (impVs σ xs).2 ∧ (σ.wf → (impVs σ xs).2.wf)
  | [], σ => ⟨σ.ext_refl, id⟩
  | x :: xs, σ => ⟨St.ext_trans (impV_st σ x).1 (impVs_st xs _).1, fun h => (impVs_st xs _).2 ((impV_st σ x).2 h)⟩
theorem impR_st (σ : St) : ∀ xs : List RV, σ.ext (impR σ xs).2 ∧ (σ.wf → (impR σ xs).2.wf)
  | [x] => impV_st σ x
  | [] => impVs_st [] σ
  | x :: y :: zs => impVs_st (x :: y :: zs) σ

theorem mapO_mono {α β : Type} {f g : α → Option β} (h : ∀ x y, f x = some y → g x = some y) : ∀ (xs : List α) (ys : List β), mapO f xs = some ys → mapO g xs = some ys
  | [], ys, e => e
  | x :: xs, ys, e => by
    simp only [mapO] at e ⊢
    split at e
    · rename_i y ys' e1 e2
      rw [h x y e1, mapO_mono h xs ys' e2]
      exact e
    · cases e
section
variable {O O' : List (Nat × Ob)} (hsub : ∀ id ob, get O id = some ob → get O' id = some ob)
include hsub
theorem T1_mono (x : C) (y : T) (h : T1 O x = some y) : T1 O' x = some y := by
  cases x <;> simp only [T1] at h ⊢ <;> try exact h
  all_goals
    split at h
    · rename_i e
      rw [hsub _ _ e]
      exact h
    · first | (rename_i e; rw [hsub _ _ e]; exact h) | cases h
  all_goals cases h
theorem boxT_mono (x : Nat) (y : T) (h : boxT O x = some y) : boxT O' x = some y := by
  simp only [boxT] at h ⊢
  split at h
  · rename_i cs e
    rw [hsub _ _ e]
    split at h
    · rename_i ts e2
      simp only [mapO_mono (T1_mono hsub) _ _ e2]
      exact h
    · cases h
  · cases h
theorem T2_mono (x : C) (y : T) (h : T2 O x = some y) : T2 O' x = some y := by
  cases x with
  | nil => exact h
  | nil0 => exact h
  | anc x => exact h
  | t x => exact h
  | view id sz lo hi => exact T1_mono hsub (.view id sz lo hi) y h
  | ref id =>
    simp only [T2] at h ⊢
    split at h
    · rename_i e
      rw [hsub _ _ e]
      exact h
    · rename_i e
      rw [hsub _ _ e]
      exact h
    · rename_i e
      rw [hsub _ _ e]
      split at h
      · rename_i ts e2
        simp only [mapO_mono (mapO_mono (T1_mono hsub)) _ _ e2]
        exact h
      · cases h
    · cases h
  | fn f ids =>
    simp only [T2] at h ⊢
    split at h
    · rename_i bs e
      rw [mapO_mono (boxT_mono hsub) _ _ e]
      exact h
    · cases h
theorem argV_mono (x : AV) (y : V) (h : argV O x = some y) : argV O' x = some y := by
  unfold argV at h ⊢
  split at h
  · split at h
    · rename_i e
      rw [T2_mono hsub _ _ e]
      exact h
    · cases h
  · split at h
    · rename_i e
      rw [mapO_mono (T2_mono hsub) _ _ e]
      exact h
    · cases h
  · split at h
    · rename_i e
      rw [boxT_mono hsub _ _ e]
      exact h
    · cases h
  · cases h
theorem callee_mono {f : Operand} {fe : FuncId × List V} (h : callee vl O f = some fe) : callee vl O' f = some fe := by
  unfold callee at h ⊢
  split at h
  · split at h
    · rename_i e1 _ e
      rw [mapO_mono (boxT_mono hsub) _ _ e]
      exact h
    · cases h
  · exact h
  · cases h
end

theorem sound_call (hw : σ.wf) {f : Operand} {args : Array Operand} {argTypes : Array TypeId}
    (h : opB P E vl (.call { callee := .value f, args, argTypes }) σ K) : SoundB P vl ⟨dst, .call { callee := .value f, args, argTypes }, type, pos, after, guard⟩ σ K := by
  simp only [opB] at h
  have h' := need_some h; clear h
  obtain ⟨fe, efe, h⟩ := h'
  have h' := need_some h; clear h
  obtain ⟨avs, eavs, h⟩ := h'
  have h' := need_some h; clear h
  obtain ⟨as, eas, rs, hfn, h⟩ := h'
  refine ⟨_, _, h, (impR_st σ rs).1, (impR_st σ rs).2 hw, ?_⟩
  intro w0 O G w a Kc Q hsub hM hops hfr hK
  have hsub0 : ∀ id ob, get σ.objs id = some ob → get O id = some ob := fun id ob h => hsub id ob (by rw [(impR_st σ rs).1.objs id (hw id ob h)]; exact h)
  obtain ⟨hent, hfn⟩ := hfn
  have hfo : f ∈ (Op.call { callee := .value f, args, argTypes }).operands := by simp [Op.operands, Call.operands]
  obtain ⟨caps, hc1, hc2⟩ := callee_rep hM (callee_mono hsub0 efe) (a := a) (hops f hfo)
  have hargs := vals_rep (O := O) (G := G) (w := w) (a := a) eavs (fun x hx => hops x (by simp only [Op.operands, Call.operands]; simp [Array.mem_toList_iff.1 hx]))
  have hreps := repVs_append (argVs_sound hM (mapO_mono (argV_mono hsub0) _ _ eas) hargs) hc2
  have hcall := hfn w _ hreps
  unfold Oper.wp
  rw [run_call hent hc1 w]
  show Calls P fe.1 _ w _
  refine hcall.mono fun e w' hpost => ?_
  obtain ⟨us, F, v, rfl, hret, hus, hnd, hfresh, hb⟩ := hpost
  obtain ⟨l, imp⟩ := impR_sound hw hus hret
  have hlt : ∀ j, σ.next ≤ j → j < σ.next + l.length → ¬ G.A j := fun j h1 h2 => hfr j h1 (by rw [imp.next]; exact h2)
  obtain ⟨hM', hp⟩ := hM.newL σ.next l hlt hb (by rw [imp.flat]; exact hnd) (fun p hp b hbp => hfresh b (by rw [← imp.flat]; exact List.mem_flatten.2 ⟨p.2, List.mem_map.2 ⟨p, hp, rfl⟩, hbp⟩)) imp.hds
    (fun k o hk ho p => by
      obtain ⟨o', ho'⟩ := imp.have_ k hk
      have := hsub _ _ ho'
      rw [ho] at this
      injection this with this
      subst this
      have hn := Gh.addL_new (G := G) (n := σ.next) hk
      exact imp.obs k hk o ho' O _ hn.1 hn.2)
  refine hK _ v w' hM' hp (imp.rep O _ fun k hk => ?_) (fun j hj => ?_)
  · have hn := Gh.addL_new (G := G) (n := σ.next) hk
    exact ⟨.inr ⟨by omega, by omega⟩, hn.1⟩
  · rw [imp.next]
    exact hj

theorem push_list : ∀ (bs : List UInt8) (s : List UInt8), (bs.map (fun b : UInt8 => (b.toNat : Int))).foldl (fun r n => r.push (UInt8.ofNat n.toNat)) (⟨s.toArray⟩ : ByteArray) = ⟨(s ++ bs).toArray⟩
  | [], s => by simp
  | b :: bs, s => by
    have e : (⟨s.toArray⟩ : ByteArray).push (UInt8.ofNat ((b.toNat : Int)).toNat) = ⟨(s ++ [b]).toArray⟩ := by simp [ByteArray.push]
    rw [List.map_cons, List.foldl_cons, e, push_list bs (s ++ [b]), List.append_assoc]
    rfl
theorem repRows_bytes {w : World} : ∀ {bs : List UInt8} {css : List (List Value)} {F : List Nat}, repRows w (bs.map (fun b => [T.int .u8 (b.toNat : Int)])) css F → css = bs.map (fun b => [Value.int .u8 (b.toNat : Int)])
  | [], css, F, h => by simp only [List.map_nil, repRows] at h; simp [h.1]
  | b :: bs, css, F, h => by
    simp only [List.map_cons, repRows] at h
    obtain ⟨cs, css', F1, F2, rfl, _, h1, h2⟩ := h
    simp only [repCells] at h1
    obtain ⟨v, cs', _, _, rfl, _, hv, h3, _⟩ := h1
    simp only [T.rep] at hv
    rw [h3, hv.1, repRows_bytes h2]
    rfl
theorem sound_convert (hE : TOk P E) (hw : σ.wf) {s d : Nat} {x : Operand} (h : opB P E vl (.convert s d x) σ K) : SoundB P vl ⟨dst, .convert s d x, type, pos, after, guard⟩ σ K := by
  simp only [opB] at h
  have h' := need_some h; clear h
  obtain ⟨ts, es, h⟩ := h'
  split at h
  · rename_i e hks
    have h' := need_some h; clear h
    obtain ⟨te, ee, h⟩ := h'
    have h' := need_some h; clear h
    obtain ⟨td, ed, ⟨hke, hkd⟩, h⟩ := h'
    have h' := need_some h; clear h
    obtain ⟨v, ev, h⟩ := h'
    have h' := need_some h; clear h
    obtain ⟨y, ey, h⟩ := h'
    split at h
    · obtain ⟨bs, rfl, h⟩ := h
      refine SoundB.quiet hw h (fun w0 O G w a hsub hM hops => ?_)
      obtain ⟨d1, hd1, _, hk1⟩ := (hE s ts es).desc
      obtain ⟨d2, hd2, _, hk2⟩ := (hE e te ee).desc
      obtain ⟨d3, hd3, _, hk3⟩ := (hE d td ed).desc
      rw [hks] at hk1
      rw [hke] at hk2
      rw [hkd] at hk3
      simp only [TKok] at hk1 hk2 hk3
      subst hk1 hk2 hk3
      obtain ⟨F, hr⟩ := argV_sound hM (argV_mono hsub _ _ ey) (hops x (by simp [Op.operands]) _ ev)
      have hr' : (T.lst (bs.map (fun b => [T.int .u8 (b.toNat : Int)]))).rep w (a.eval x) F := hr
      simp only [T.rep] at hr'
      obtain ⟨A, c, h1, h2, h3⟩ := hr'
      have hc := run_convert_bytes_string (P := P) w s d e A (bs.map (fun b => [T.int .u8 (b.toNat : Int)])).length c hd1 hd2 hd3
      have hb : (Conv.bytesToString (.slice A (bs.map (fun b => [T.int .u8 (b.toNat : Int)])).length c)).run P w = .ok (.string ⟨bs.toArray⟩) w := by
        have pl := push_list bs []
        rw [List.nil_append] at pl
        cases A with
        | none =>
          have h0 : bs = [] := by
            rcases h3 with ⟨h3, _⟩ | ⟨ad, _, _, _, _, h3, _⟩
            · exact List.map_eq_nil_iff.1 h3
            · cases h3
          subst h0
          rfl
        | some ad =>
          rw [← pl]
          refine run_bytesToString (P := P) w ad _ c (bs.map (fun b : UInt8 => (b.toNat : Int))) ?_
          have hl := run_loadCells_list (P := P) w ad (bs.map (fun b => Value.int .u8 (b.toNat : Int))) (fun j v hj => by
            rcases h3 with ⟨h3, _⟩ | ⟨ad', css, F', sz, _, h4, _, _, h5, h6⟩
            · have : bs = [] := List.map_eq_nil_iff.1 h3
              subst this
              simp at hj
            · injection h4 with h4
              subst h4
              have h7 := repRows_bytes h5
              subst h7
              rw [List.getElem?_map] at hj
              cases hb : bs[j]? with
              | none => rw [hb] at hj; cases hj
              | some b =>
                rw [hb] at hj
                injection hj with hj
                obtain ⟨h8, h9⟩ := h6 j [Value.int .u8 (b.toNat : Int)] (by rw [List.getElem?_map, hb]; rfl)
                have h10 := h9 0 (Value.int .u8 (b.toNat : Int)) rfl
                rw [← h8] at h10
                simpa [← hj] using h10)
          simpa [List.map_map, Function.comp_def] using hl
      refine ⟨.string ⟨bs.toArray⟩, ?_, ⟨[], ⟨rfl, rfl⟩, fun _ _ b hb => by simp at hb⟩⟩
      simp only [execOp, h1]
      rw [Sem.run_bind, hc, hb]
      rfl
    · exact h.elim
  · obtain ⟨av, hK, hg⟩ := opA_sound hE (o := ⟨dst, .convert s d x, type, pos, after, guard⟩) h
    exact SoundB.quiet hw hK (fun w0 O G w a _ _ hops => hg O G w a hops)

/-- THE SOUNDNESS OF 'opB'. -/
theorem opB_sound (hE : TOk P E) (hw : σ.wf) {o : Oper} (h : opB P E vl o.op σ K) : SoundB P vl o σ K := by
  obtain ⟨dst, op, type, pos, after, guard⟩ := o
  simp only at h
  cases op with
  | alloc t => exact sound_alloc hE hw h
  | box t x => exact sound_box hw h
  | build t parts => exact sound_build hE hw h
  | buildSlice t len parts => exact sound_buildSlice hE hw h
  | load t x => exact sound_load hE hw h
  | makeSlice t l c => exact sound_makeSlice hE hw h
  | indexAddr t x i => exact sound_indexAddr hE hw h
  | slice t x lo hi mx => exact sound_slice hE hw h
  | convert s d x => exact sound_convert hE hw h
  | call c =>
    obtain ⟨cal, args, argTypes⟩ := c
    cases cal with
    | value f => exact sound_call hw h
    | builtin b => cases b <;> first | exact sound_len hE hw h | (simp [opB] at h)
    | invoke r m => simp [opB] at h
  | _ => simp [opB] at h
end
end Go.Vm

namespace Go.Vm
open Go.RowKit

def dels {α : Type} (l : List (Nat × α)) : List Nat → List (Nat × α)
  | [] => l
  | n :: r => dels (del l n) r

theorem get_dels {α : Type} : ∀ (ids : List Nat) (l : List (Nat × α)) (j : Nat), (j ∈ ids → get (dels l ids) j = none) ∧ (j ∉ ids → get (dels l ids) j = get l j)
  | [], l, j => by simp [dels]
  | n :: r, l, j => by
    have ih := get_dels r (del l n) j
    refine ⟨fun h => ?_, fun h => ?_⟩
    · by_cases hr : j ∈ r
      · exact ih.1 hr
      · rcases List.mem_cons.1 h with rfl | h
        · simp only [dels]; rw [ih.2 hr, get_del_same]
        · exact absurd h hr
    · simp only [List.mem_cons, not_or] at h
      simp only [dels]
      rw [ih.2 h.2, get_del_other _ _ _ h.1]

def isScal : T → Bool
  | .int .. | .bool _ | .str _ | .raw _ => true
  | _ => false

/-- A cell that moves into a row: its data, and the objects that it takes with it. With 'own' all that it holds must be the call's own. -/
def moveC (O : List (Nat × Ob)) (own : Bool) : C → Option (T × List Nat)
  | .nil => some (.lst [], [])
  | .t x => bif (!own || isScal x) then some (x, []) else none
  | .ref id => match get O id with
    | some (.row o _ _ rows) => bif (!own || o) then some (.lst rows, [id]) else none
    | _ => none
  | _ => none
def moveCs (O : List (Nat × Ob)) (own : Bool) : List C → Option (List T × List Nat)
  | [] => some ([], [])
  | x :: xs => match moveC O own x, moveCs O own xs with
    | some (y, i), some (ys, is) => some (y :: ys, i ++ is)
    | _, _ => none
def moveCss (O : List (Nat × Ob)) (own : Bool) : List (List C) → Option (List (List T) × List Nat)
  | [] => some ([], [])
  | x :: xs => match moveCs O own x, moveCss O own xs with
    | some (y, i), some (ys, is) => some (y :: ys, i ++ is)
    | _, _ => none

def notIn (n : Nat) : List Nat → Bool
  | [] => true
  | k :: r => !(Nat.beq k n) && notIn n r
def nodupB : List Nat → Bool
  | [] => true
  | k :: r => notIn k r && nodupB r
theorem notIn_iff {n : Nat} : ∀ {l : List Nat}, notIn n l = true → n ∉ l
  | [], _ => by simp
  | k :: r, h => by
    simp only [notIn, Bool.and_eq_true, Bool.not_eq_true'] at h
    have := notIn_iff h.2
    intro hm
    rcases List.mem_cons.1 hm with rfl | hm
    · simp at h
    · exact this hm
theorem nodupB_iff : ∀ {l : List Nat}, nodupB l = true → l.Nodup
  | [], _ => by simp
  | k :: r, h => by
    simp only [nodupB, Bool.and_eq_true] at h
    exact List.nodup_cons.2 ⟨notIn_iff h.1, nodupB_iff h.2⟩

/-- The rows that a slice value shows (not taken from their owner). -/
def spread (O : List (Nat × Ob)) : AV → Option (List (List T))
  | .c .nil => some []
  | .c (.t (.lst rows)) => some rows
  | .c (.ref id) => match get O id with
    | some (.row _ _ _ rows) => some rows
    | _ => none
  | .c (.view id sz lo hi) => match get O id with
    | some (.row _ _ sz' rows) => bif Nat.beq sz sz' then some ((rows.take hi).drop lo) else none
    | _ => none
  | _ => none

/-- What 'append' begins with: nothing, or a row of the call's own. -/
def baseOf (O : List (Nat × Ob)) : AV → Option (Bool × List (List T) × Option Nat × List Nat)
  | .c .nil => some (true, [], none, [])
  | .c .nil0 => some (true, [], none, [])
  | .c (.ref id) => match get O id with
    | some (.row own true sz rows) => some (own, rows, some sz, [id])
    | _ => none
  | _ => none

/-- The second of two ways on: what was appended can still be seen. -/
@[irreducible] def VW (p : Prop) : Prop := p
/-- Another way on: what is appended stays of nobody's own. -/
@[irreducible] def NO (p : Prop) : Prop := p
theorem no {p : Prop} (h : p) : NO p := by unfold NO; exact h
theorem vw {p : Prop} (h : p) : VW p := by unfold VW; exact h

def opE (E : Nat → Option TI) (vl : Operand → Option AV) (op : Op) (σ : St) (K : AV → St → Prop) : Prop :=
  match op with
  | .store t x v => need (E t) fun ti => need (vl v) fun av => need (cellsOf av) fun ns => need (vl x) fun
    | .ptr id off => need (get σ.objs id) fun
      | .box cs => (ns.length = ti.size ∧ off + ns.length ≤ cs.length) ∧ K .junk { σ with objs := Vm.put σ.objs id (.box (cs.take off ++ ns ++ cs.drop (off + ns.length))) }
      | _ => False
    | .iptr id sz i off => need (get σ.objs id) fun
      | .row own app sz' rows => sz = sz' ∧ ∃ cs, rows[i]? = some cs ∧ (ns.length = ti.size ∧ off + ns.length ≤ cs.length) ∧ Nat.ble 1 ti.size = true ∧
        need (moveCs σ.objs own ns) fun tm => nodupB (id :: tm.2) = true ∧
          K .junk { σ with objs := Vm.put (dels σ.objs tm.2) id (.row own app sz (rows.set i (cs.take off ++ tm.1 ++ cs.drop (off + ns.length)))) }
      | _ => False
    | _ => False
  | .call { callee := .builtin .append, args, argTypes } => match args.toList, argTypes.toList with
    | [x, y], [t, t'] => t = t' ∧ need (E t) fun ti => match ti.k with
      | .sl e => need (E e) fun te => need (vl x) fun vx => need (vl y) fun vy => need (baseOf σ.objs vx) fun b => (b.2.2.1 = none ∨ b.2.2.1 = some te.size) ∧
        match vy with
        | .c (.ref j) => need (get σ.objs j) fun
          | .tmp sz crows => (need (moveCss σ.objs b.1 crows) fun tm => (nodupB (b.2.2.2 ++ j :: tm.2) = true ∧ sz = te.size) ∧
              ((b.2.1.length + tm.1.length) * te.bytes ≤ 140737488355328 ∧ b.2.1.length + tm.1.length ≤ 140737488355328) ∧
              (K (.c (.ref σ.next)) ⟨σ.env, (σ.next, .row b.1 true te.size (b.2.1 ++ tm.1)) :: dels σ.objs (b.2.2.2 ++ j :: tm.2), σ.next + 1⟩ ∨
                VW (match tm.2 with
                  | [k] => need (get σ.objs k) fun
                    | .row true _ _ rows => K (.c (.ref σ.next)) ⟨σ.env, (k, .vw rows) :: (σ.next, .row b.1 true te.size (b.2.1 ++ tm.1)) :: dels σ.objs (b.2.2.2 ++ j :: tm.2), σ.next + 1⟩
                    | _ => False
                  | _ => False))) ∨
              NO (need (moveCss σ.objs false crows) fun tm => (nodupB (b.2.2.2 ++ j :: tm.2) = true ∧ sz = te.size) ∧
                ((b.2.1.length + tm.1.length) * te.bytes ≤ 140737488355328 ∧ b.2.1.length + tm.1.length ≤ 140737488355328) ∧
                K (.c (.ref σ.next)) ⟨σ.env, (σ.next, .row false true te.size (b.2.1 ++ tm.1)) :: dels σ.objs (b.2.2.2 ++ j :: tm.2), σ.next + 1⟩)
          | .row _ _ sz rows => ∃ sc : Bool, (sc = true → ∀ r ∈ rows, ∀ x ∈ r, isScal x = true) ∧ (notIn j b.2.2.2 = true ∧ sz = te.size) ∧
              ((b.2.1.length + rows.length) * te.bytes ≤ 140737488355328 ∧ b.2.1.length + rows.length ≤ 140737488355328) ∧
              K (.c (.ref σ.next)) ⟨σ.env, (σ.next, .row (b.1 && sc) true te.size (b.2.1 ++ rows)) :: dels σ.objs b.2.2.2, σ.next + 1⟩
          | _ => False
        | _ => need (spread σ.objs vy) fun rows => ∃ sc : Bool, (sc = true → ∀ r ∈ rows, ∀ x ∈ r, isScal x = true) ∧ (∀ r ∈ rows, r.length = te.size) ∧
              ((b.2.1.length + rows.length) * te.bytes ≤ 140737488355328 ∧ b.2.1.length + rows.length ≤ 140737488355328) ∧
              K (.c (.ref σ.next)) ⟨σ.env, (σ.next, .row (b.1 && sc) true te.size (b.2.1 ++ rows)) :: dels σ.objs b.2.2.2, σ.next + 1⟩
      | _ => False
    | _, _ => False
  | _ => False

def GoesE (P : Program) (vl : Operand → Option AV) (o : Oper) (σ σ' : St) (av : AV) : Prop :=
  ∀ (w0 : Base) G w a (Kc : Act → World → Prop) (Q : Exit → Act → World → Prop), Mem w0 σ.objs G w → OpsRep vl o.op σ.objs G w a → (∀ j, G.A j → j < σ.next) →
    (∀ G' v w', Mem w0 σ'.objs G' w' → Pres σ.objs G w σ'.objs G' w' → av.rep σ'.objs G' w' v → (∀ j, G'.A j → j < σ'.next) → Kc (a.put o.dst v) w') → o.wp P a w Kc Q

/-! ### The ghost of a step that changes or lays one object and takes others in -/
def Gh.set (G : Gh) (m : Nat) (v : Value) (F : List Nat) : Gh where
  A := fun j => G.A j ∨ j = m
  φ := fun j => if j = m then v else G.φ j
  Φ := fun j => if j = m then F else G.Φ j
  h := fun j => if j = m then hd v else G.h j
  b := G.b
  pin := G.pin

section
variable {P : Program} {E : Nat → Option TI} {O O' : List (Nat × Ob)} {G : Gh} {w w' : World} {w0 : Base}

theorem Mem.move (hM : Mem w0 O G w) (m : Nat) (v : Value) (F : List Nat) (S : List Nat)
    (hO : ∀ j, j ≠ m → j ∉ S → get O' j = get O j) (hOS : ∀ j, j ≠ m → j ∈ S → get O' j = none)
    (hm : G.A m → v = G.φ m) (hos : w'.os = w.os) (htape : w'.tape = w.tape) (hout : w'.output = w.output) (hsize : w.heap.size ≤ w'.heap.size)
    (hheap : ∀ b, b < w.heap.size → (∀ i, Lv O G i → (i ∈ S ∨ i = m) → b ∉ G.h i) → w'.heap[b]? = w.heap[b]?)
    (hF : F.Nodup) (hFlo : ∀ b ∈ F, ((w.heap.size ≤ b) ∨ ∃ i, Lv O G i ∧ (i ∈ S ∨ i = m) ∧ b ∈ G.Φ i) ∧ ∃ arr e, w'.heap[b]? = some (.cells arr e (0, 0)))
    (hh : ∀ b ∈ hd v, b ∈ F ∧ (w.heap.size ≤ b ∨ ∃ i, Lv O G i ∧ b ∈ G.h i))
    (hr : ∀ o, get O' m = some o → Pres O G w O' (G.set m v F) w' → o.rep O' (G.set m v F) w' m) :
    Mem w0 O' (G.set m v F) w' ∧ Pres O G w O' (G.set m v F) w' := by
  refine Mem.step hM (fun j => Lv O G j ∧ j ∉ S ∧ j ≠ m) (fun j => j = m) (fun id h => ⟨.inl h, ?_⟩) ⟨rfl, rfl⟩ (fun id h => ⟨h.1, hO id h.2.2 h.2.1, ?_⟩) (fun id h => ?_)
    hos htape hout hsize (fun b hb hn => hheap b hb (fun i hi hs => hn i hi (fun hk => ?_))) (fun id hx => ?_) (fun i j hi hj hne => ?_) (fun id hx b hb => ?_) (fun id hx b hb => ?_) (fun id o hx _ hg p => ?_)
  · by_cases e : id = m
    · subst e; simp only [Gh.set, if_pos]; exact hm h
    · simp only [Gh.set, if_neg e]
  · simp only [Gh.set, if_neg h.2.2, and_self]
  · by_cases e : id = m
    · exact .inr e
    · by_cases hs : id ∈ S
      · obtain ⟨_, o, ho⟩ := h
        rw [hOS id e hs] at ho
        cases ho
      · obtain ⟨ha, o, ho⟩ := h
        rw [hO id e hs] at ho
        rcases ha with ha | ha
        · exact .inl ⟨⟨ha, o, ho⟩, hs, e⟩
        · exact absurd ha e
  · rcases hs with hs | hs
    · exact hk.2.1 hs
    · exact hk.2.2 hs
  · subst hx; simp only [Gh.set, if_pos]; exact hF
  · exact absurd (hi.trans hj.symm) hne
  · subst hx
    simp only [Gh.set, if_pos] at hb
    obtain ⟨h1, h2⟩ := hFlo b hb
    refine ⟨h1.imp (fun h => h) (fun ⟨i, hi, hs, hbi⟩ => ⟨i, hi, fun hk => ?_, hbi⟩), h2⟩
    rcases hs with hs | hs
    · exact hk.2.1 hs
    · exact hk.2.2 hs
  · subst hx
    simp only [Gh.set, if_pos] at hb ⊢
    exact hh b hb
  · subst hx
    exact hr o hg p

/-! ### Rows and cells taken apart -/
theorem repCells_split : ∀ {xs : List T} {vs : List Value} {F : List Nat} (off len : Nat), repCells w xs vs F → ∃ F1 F2 F3, F = F1 ++ F2 ++ F3 ∧ repCells w (xs.take off) (vs.take off) F1 ∧
    repCells w ((xs.drop off).take len) ((vs.drop off).take len) F2 ∧ repCells w (xs.drop (off + len)) (vs.drop (off + len)) F3 := by
  have cut : ∀ {xs : List T} {vs : List Value} {F : List Nat} (n : Nat), repCells w xs vs F → ∃ F1 F2, F = F1 ++ F2 ∧ repCells w (xs.take n) (vs.take n) F1 ∧ repCells w (xs.drop n) (vs.drop n) F2 := by
    intro xs
    induction xs with
    | nil => intro vs F n h; simp only [repCells] at h; obtain ⟨rfl, rfl⟩ := h; exact ⟨[], [], rfl, by simp [repCells], by simp [repCells]⟩
    | cons x xs ih =>
      intro vs F n h
      cases n with
      | zero => exact ⟨[], F, rfl, by simp [repCells], by simpa using h⟩
      | succ n =>
        simp only [repCells] at h
        obtain ⟨v, cs', F1, F2, rfl, rfl, h3, h4⟩ := h
        obtain ⟨F3, F4, rfl, h5, h6⟩ := ih n h4
        exact ⟨F1 ++ F3, F4, by simp, by simp only [List.take_succ_cons, repCells]; exact ⟨v, _, F1, F3, rfl, rfl, h3, h5⟩, by simpa using h6⟩
  intro xs vs F off len h
  obtain ⟨F1, F4, rfl, h1, h2⟩ := cut off h
  obtain ⟨F2, F3, rfl, h3, h4⟩ := cut len h2
  rw [List.drop_drop, List.drop_drop] at h4
  exact ⟨F1, F2, F3, by simp, h1, h3, h4⟩

theorem repRows_set : ∀ {rs : List (List T)} {css : List (List Value)} {F : List Nat} {i : Nat} {r : List T}, repRows w rs css F → rs[i]? = some r →
    ∃ FA Fi FB vs, F = FA ++ Fi ++ FB ∧ css[i]? = some vs ∧ repCells w r vs Fi ∧ ∀ (r' : List T) (vs' : List Value) (Fi' : List Nat) (w' : World), repCells w' r' vs' Fi' → (∀ b ∈ FA ++ FB, w'.heap[b]? = w.heap[b]?) →
      repRows w' (rs.set i r') (css.set i vs') (FA ++ Fi' ++ FB)
  | [], css, F, i, r, h, hi => by simp at hi
  | r0 :: rs, css, F, i, r, h, hi => by
    simp only [repRows] at h
    obtain ⟨cs, css', F1, F2, rfl, rfl, h3, h4⟩ := h
    cases i with
    | zero =>
      simp at hi
      subst hi
      refine ⟨[], F1, F2, cs, by simp, by simp, h3, fun r' vs' Fi' w' hr hk => ?_⟩
      simp only [List.set_cons_zero, repRows, List.nil_append]
      exact ⟨vs', css', Fi', F2, rfl, rfl, hr, repRows_keep _ _ _ h4 (fun b hb => hk b (by simp [hb]))⟩
    | succ i =>
      obtain ⟨FA, Fi, FB, vs, rfl, h5, h6, h7⟩ := repRows_set h4 (by simpa using hi)
      refine ⟨F1 ++ FA, Fi, FB, vs, by simp, by simpa using h5, h6, fun r' vs' Fi' w' hr hk => ?_⟩
      simp only [List.set_cons_succ, repRows]
      exact ⟨cs, _, F1, FA ++ Fi' ++ FB, rfl, by simp, repCells_keep _ _ _ h3 (fun b hb => hk b (by simp [hb])), h7 r' vs' Fi' w' hr (fun b hb => hk b (by simp at hb ⊢; rcases hb with hb | hb <;> simp [hb]))⟩

/-! ### What moves -/
theorem moveC_rep (hM : Mem w0 O G w) {own : Bool} {x : C} {y : T} {ids : List Nat} {v : Value} (h : moveC O own x = some (y, ids)) (hr : x.rep O G w v) :
    ∃ F, y.rep w v F ∧ (∀ i ∈ ids, Lv O G i) ∧ (own = true → F.Nodup ∧ ∀ b ∈ F, ∃ i, i ∈ ids ∧ b ∈ G.Φ i) ∧
      (∀ b ∈ F, ∀ j, Lv O G j → j ∉ ids → b ∉ G.h j) := by
  cases x with
  | nil =>
    simp only [moveC, Option.some.injEq, Prod.mk.injEq] at h
    obtain ⟨rfl, rfl⟩ := h
    have hr' : v = .slice none 0 0 := hr
    subst hr'
    exact ⟨[], by simp only [T.rep]; exact ⟨none, 0, rfl, Nat.le_refl _, .inl ⟨trivial, trivial⟩⟩, by simp, fun _ => by simp, by simp⟩
  | nil0 => simp [moveC] at h
  | anc x => simp [moveC] at h
  | t x =>
    simp only [moveC] at h
    cases hb : (!own || isScal x) with
    | false => simp [hb] at h
    | true =>
      simp only [hb, cond_true, Option.some.injEq, Prod.mk.injEq] at h
      obtain ⟨rfl, rfl⟩ := h
      obtain ⟨F, h1, h2⟩ := hr
      refine ⟨F, h1, by simp, fun ho => ?_, fun b hbb j hj _ => h2 j hj b hbb⟩
      subst ho
      simp only [Bool.not_true, Bool.false_or] at hb
      have : F = [] := by cases x <;> simp [isScal] at hb <;> exact h1.2
      subst this
      simp
  | ref id =>
    simp only [moveC] at h
    split at h
    · rename_i o app sz rows hg
      cases hb : (!own || o) with
      | false => simp [hb] at h
      | true =>
        simp only [hb, cond_true, Option.some.injEq, Prod.mk.injEq] at h
        obtain ⟨rfl, rfl⟩ := h
        obtain ⟨h1, h2, _⟩ := hr
        subst h2
        have hob := hM.obs id _ h1 hg
        obtain ⟨css, F', h3, h4, h5, h6⟩ := hob
        have hweak : RowWeak w (G.φ id) rows.length sz css := by
          cases app with
          | true => simp only [if_true] at h5; exact h5.1.weak h4
          | false => simp only [Bool.false_eq_true, if_false] at h5; exact h5.1
        obtain ⟨F, h7, h8'⟩ := hweak.rep h3 h4
        have h8 : F = G.h id ++ F' ∨ F = [] := by
          have hh : G.h id = hd (G.φ id) ∨ (rows = [] ∧ G.h id = []) := by
            cases app with
            | true => simp only [if_true] at h5; exact .inl h5.2
            | false => simp only [Bool.false_eq_true, if_false] at h5; exact h5.2
          rcases hh with hh | ⟨hr0, hh⟩
          · rw [hh]; exact h8'
          · subst hr0
            simp only [T.rep] at h7
            obtain ⟨_, _, _, _, ⟨_, h9⟩ | ⟨_, _, _, _, h9, _⟩⟩ := h7
            · exact .inr h9
            · exact absurd rfl h9
        have hlv : Lv O G id := ⟨h1, _, hg⟩
        refine ⟨F, h7, by simpa using hlv, fun ho => ?_, fun b hbb j hj hne => ?_⟩
        · subst ho
          simp only [Bool.not_true, Bool.false_or] at hb
          subst hb
          simp only [if_true] at h6
          have hnd := hM.nodup id hlv
          rcases h8 with rfl | rfl
          · rw [← h6]; exact ⟨hnd, fun b hb => ⟨id, by simp, hb⟩⟩
          · simp
        · have hne' : j ≠ id := by simpa using hne
          rcases h8 with rfl | rfl
          · intro hbj
            rcases List.mem_append.1 hbb with hb1 | hb1
            · exact hM.disj id j hlv hj (fun e => hne' e.symm) b (hM.hds id hlv b hb1) (hM.hds j hj b hbj)
            · cases o with
              | true =>
                simp only [if_true] at h6
                exact hM.disj id j hlv hj (fun e => hne' e.symm) b (by rw [h6]; simp [hb1]) (hM.hds j hj b hbj)
              | false =>
                simp only [Bool.false_eq_true, if_false] at h6
                exact h6.2 j hj b hb1 hbj
          · simp at hbb
    · cases h
  | fn f ids => simp [moveC] at h
  | view id sz lo hi => simp [moveC] at h

theorem moveCs_rep (hM : Mem w0 O G w) {own : Bool} : ∀ {xs : List C} {ys : List T} {ids : List Nat} {vs : List Value}, moveCs O own xs = some (ys, ids) → repCs O G w xs vs → ids.Nodup →
    ∃ F, repCells w ys vs F ∧ (∀ i ∈ ids, Lv O G i) ∧ (own = true → F.Nodup ∧ ∀ b ∈ F, ∃ i, i ∈ ids ∧ b ∈ G.Φ i) ∧ (∀ b ∈ F, ∀ j, Lv O G j → j ∉ ids → b ∉ G.h j)
  | [], ys, ids, vs, h, hr, _ => by
    simp only [moveCs, Option.some.injEq, Prod.mk.injEq] at h
    obtain ⟨rfl, rfl⟩ := h
    exact ⟨[], by simp only [repCells]; exact ⟨hr, trivial⟩, by simp, fun _ => by simp, by simp⟩
  | x :: xs, ys, ids, vs, h, ⟨v, vs', hv, h2, h3⟩, hnd => by
    simp only [moveCs] at h
    split at h
    · rename_i y i ys' is e1 e2
      simp only [Option.some.injEq, Prod.mk.injEq] at h
      obtain ⟨rfl, rfl⟩ := h
      subst hv
      obtain ⟨hn1, hn2, hn3⟩ := List.nodup_append.1 hnd
      obtain ⟨F1, a1, a2, a3, a4⟩ := moveC_rep hM e1 h2
      obtain ⟨F2, b1, b2, b3, b4⟩ := moveCs_rep hM e2 h3 hn2
      refine ⟨F1 ++ F2, by simp only [repCells]; exact ⟨v, vs', F1, F2, rfl, rfl, a1, b1⟩, fun j hj => ?_, fun ho => ⟨?_, fun b hb => ?_⟩, fun b hb j hj hni => ?_⟩
      · rcases List.mem_append.1 hj with hj | hj
        · exact a2 j hj
        · exact b2 j hj
      · refine List.nodup_append.2 ⟨(a3 ho).1, (b3 ho).1, fun b hb b' hb' e => ?_⟩
        subst e
        obtain ⟨i1, hi1, hbi1⟩ := (a3 ho).2 b hb
        obtain ⟨i2, hi2, hbi2⟩ := (b3 ho).2 b hb'
        exact hM.disj i1 i2 (a2 i1 hi1) (b2 i2 hi2) (hn3 i1 hi1 i2 hi2) b hbi1 hbi2
      · rcases List.mem_append.1 hb with hb | hb
        · obtain ⟨i1, hi1, hbi1⟩ := (a3 ho).2 b hb
          exact ⟨i1, by simp [hi1], hbi1⟩
        · obtain ⟨i1, hi1, hbi1⟩ := (b3 ho).2 b hb
          exact ⟨i1, by simp [hi1], hbi1⟩
      · simp only [List.mem_append, not_or] at hni
        rcases List.mem_append.1 hb with hb | hb
        · exact a4 b hb j hj hni.1
        · exact b4 b hb j hj hni.2
    · cases h

theorem moveCss_rep (hM : Mem w0 O G w) {own : Bool} : ∀ {xs : List (List C)} {ys : List (List T)} {ids : List Nat} {vs : List (List Value)}, moveCss O own xs = some (ys, ids) → repCss O G w xs vs → ids.Nodup →
    ∃ F, repRows w ys vs F ∧ (∀ i ∈ ids, Lv O G i) ∧ (own = true → F.Nodup ∧ ∀ b ∈ F, ∃ i, i ∈ ids ∧ b ∈ G.Φ i) ∧ (∀ b ∈ F, ∀ j, Lv O G j → j ∉ ids → b ∉ G.h j)
  | [], ys, ids, vs, h, hr, _ => by
    simp only [moveCss, Option.some.injEq, Prod.mk.injEq] at h
    obtain ⟨rfl, rfl⟩ := h
    exact ⟨[], by simp only [repRows]; exact ⟨hr, trivial⟩, by simp, fun _ => by simp, by simp⟩
  | x :: xs, ys, ids, vs, h, ⟨v, vs', hv, h2, h3⟩, hnd => by
    simp only [moveCss] at h
    split at h
    · rename_i y i ys' is e1 e2
      simp only [Option.some.injEq, Prod.mk.injEq] at h
      obtain ⟨rfl, rfl⟩ := h
      subst hv
      obtain ⟨hn1, hn2, hn3⟩ := List.nodup_append.1 hnd
      obtain ⟨F1, a1, a2, a3, a4⟩ := moveCs_rep hM e1 h2 hn1
      obtain ⟨F2, b1, b2, b3, b4⟩ := moveCss_rep hM e2 h3 hn2
      refine ⟨F1 ++ F2, by simp only [repRows]; exact ⟨v, vs', F1, F2, rfl, rfl, a1, b1⟩, fun j hj => ?_, fun ho => ⟨?_, fun b hb => ?_⟩, fun b hb j hj hni => ?_⟩
      · rcases List.mem_append.1 hj with hj | hj
        · exact a2 j hj
        · exact b2 j hj
      · refine List.nodup_append.2 ⟨(a3 ho).1, (b3 ho).1, fun b hb b' hb' e => ?_⟩
        subst e
        obtain ⟨i1, hi1, hbi1⟩ := (a3 ho).2 b hb
        obtain ⟨i2, hi2, hbi2⟩ := (b3 ho).2 b hb'
        exact hM.disj i1 i2 (a2 i1 hi1) (b2 i2 hi2) (hn3 i1 hi1 i2 hi2) b hbi1 hbi2
      · rcases List.mem_append.1 hb with hb | hb
        · obtain ⟨i1, hi1, hbi1⟩ := (a3 ho).2 b hb
          exact ⟨i1, by simp [hi1], hbi1⟩
        · obtain ⟨i1, hi1, hbi1⟩ := (b3 ho).2 b hb
          exact ⟨i1, by simp [hi1], hbi1⟩
      · simp only [List.mem_append, not_or] at hni
        rcases List.mem_append.1 hb with hb | hb
        · exact a4 b hb j hj hni.1
        · exact b4 b hb j hj hni.2
    · cases h
theorem moveCss_length {own : Bool} : ∀ {xs : List (List C)} {ys : List (List T)} {ids : List Nat}, moveCss O own xs = some (ys, ids) → ys.length = xs.length
  | [], ys, ids, h => by simp only [moveCss, Option.some.injEq, Prod.mk.injEq] at h; simp [← h.1]
  | x :: xs, ys, ids, h => by
    simp only [moveCss] at h
    split at h
    · rename_i y i ys' is e1 e2
      simp only [Option.some.injEq, Prod.mk.injEq] at h
      simp [← h.1, moveCss_length e2]
    · cases h
end
end Go.Vm

namespace Go.Vm
open Go.RowKit

theorem flat_length {css : List (List Value)} {sz : Nat} (hs : ∀ cs ∈ css, cs.length = sz) : css.flatten.length = css.length * sz := by
  induction css with
  | nil => simp
  | cons c cs ih => simp only [List.flatten_cons, List.length_append, List.length_cons, Nat.add_mul, Nat.one_mul]; rw [ih (fun x hx => hs x (by simp [hx])), hs c (by simp)]; omega

theorem flat_set {sz : Nat} : ∀ {css : List (List Value)} {i off : Nat} {vs us : List Value}, (∀ cs ∈ css, cs.length = sz) → css[i]? = some vs → off + us.length ≤ sz →
    (css.set i (vs.take off ++ us ++ vs.drop (off + us.length))).flatten = css.flatten.take (i * sz + off) ++ us ++ css.flatten.drop (i * sz + off + us.length)
  | [], i, off, vs, us, _, hi, _ => by simp at hi
  | c :: cs, i, off, vs, us, hs, hi, hl => by
    have hc : c.length = sz := hs c (by simp)
    cases i with
    | zero =>
      simp at hi
      subst hi
      simp only [List.set_cons_zero, List.flatten_cons, Nat.zero_mul, Nat.zero_add]
      rw [List.take_append_of_le_length (by omega), List.drop_append_of_le_length (by omega)]
      simp
    | succ i =>
      have ih := flat_set (off := off) (us := us) (fun x hx => hs x (by simp [hx])) (by simpa using hi : cs[i]? = some vs) hl
      simp only [List.set_cons_succ, List.flatten_cons, ih]
      have e1 : (i + 1) * sz + off = c.length + (i * sz + off) := by rw [hc, Nat.add_mul]; omega
      have t1 : ∀ (f : List Value) (k : Nat), (c ++ f).take (c.length + k) = c ++ f.take k := fun f k => by
        rw [List.take_append, Nat.add_sub_cancel_left, List.take_of_length_le (Nat.le_add_right _ _)]
      have t2 : ∀ (f : List Value) (k : Nat), (c ++ f).drop (c.length + k) = f.drop k := fun f k => by
        rw [List.drop_append, Nat.add_sub_cancel_left, List.drop_of_length_le (Nat.le_add_right _ _), List.nil_append]
      rw [e1, Nat.add_assoc c.length, t1, t2]
      simp

theorem grid_flat {w : World} {ad : Addr} {sz : Nat} {css : List (List Value)} (hs : ∀ cs ∈ css, cs.length = sz)
    (hg : ∀ (i : Nat) cs, css[i]? = some cs → ∀ (j : Nat) u, cs[j]? = some u → w.cell? (ad.add (i * sz + j)) = some u) : ∀ (k : Nat) u, css.flatten[k]? = some u → w.cell? (ad.add k) = some u := by
  intro k u hu
  have hk := (List.getElem?_eq_some_iff.1 hu).1
  rw [flat_length hs] at hk
  have hsz : 0 < sz := by
    rcases Nat.eq_zero_or_pos sz with h | h
    · subst h; simp at hk
    · exact h
  have hi : k / sz < css.length := by rw [Nat.div_lt_iff_lt_mul hsz]; exact hk
  have hci : css[k / sz]? = some css[k / sz] := List.getElem?_eq_getElem hi
  have hlen := hs _ (List.getElem_mem hi)
  have hj : k % sz < css[k / sz].length := by rw [hlen]; exact Nat.mod_lt _ hsz
  have e : k / sz * sz + k % sz = k := by rw [Nat.mul_comm]; exact Nat.div_add_mod k sz
  have h1 := flat_get hs _ _ hci _ _ (List.getElem?_eq_getElem hj)
  rw [e, hu] at h1
  injection h1 with h1
  have h2 := hg _ _ hci _ _ (List.getElem?_eq_getElem hj)
  rw [e, ← h1] at h2
  exact h2

theorem nodup_swap {a b c b' : List Nat} (h : (a ++ b ++ c).Nodup) (hb : b'.Nodup) (h1 : ∀ x ∈ a ++ c, x ∉ b') : (a ++ b' ++ c).Nodup := by
  rw [List.append_assoc, List.nodup_append] at h
  obtain ⟨ha, hbc, hd1⟩ := h
  obtain ⟨_, hc, _⟩ := List.nodup_append.1 hbc
  rw [List.append_assoc, List.nodup_append]
  refine ⟨ha, List.nodup_append.2 ⟨hb, hc, fun x hx y hy e => ?_⟩, fun x hx y hy e => ?_⟩
  · subst e; exact h1 x (by simp [hy]) hx
  · subst e
    rcases List.mem_append.1 hy with hy | hy
    · exact h1 x (by simp [hx]) hy
    · exact hd1 x hx x (by simp [hy]) rfl

theorem get3 {α : Type} (a u b : List α) (q : Nat) : (a ++ u ++ b)[q]? = if q < a.length then a[q]? else if q < a.length + u.length then u[q - a.length]? else b[q - a.length - u.length]? := by
  by_cases h : q < a.length
  · rw [if_pos h, List.append_assoc, List.getElem?_append_left h]
  · rw [if_neg h, List.append_assoc, List.getElem?_append_right (by omega)]
    by_cases h' : q < a.length + u.length
    · rw [if_pos h', List.getElem?_append_left (by omega)]
    · rw [if_neg h', List.getElem?_append_right (by omega)]

/-- A cell of a row written, of which only the cells are known. -/
theorem weak_store {w : World} {v : Value} {N sz i off n c : Nat} {ad : Addr} {css : List (List Value)} {vs us : List Value} (hW : RowWeak w v N sz css) (hs : ∀ cs ∈ css, cs.length = sz) (hv : v = .slice (some ad) n c)
    (hi : css[i]? = some vs) (hl : off + us.length ≤ sz) (hpos : 0 < us.length) (hN : css.length = N) :
    ∃ g cur el k, w.heap[g]? = some (.cells cur el (0, 0)) ∧ hd v = [g] ∧ Value.pointer (some (ad.add (i * sz + off))) = .pointer (some ⟨g, k, none⟩) ∧ k + us.length ≤ cur.size ∧
      RowWeak (w.setRow g (cur.toList.take k ++ us ++ cur.toList.drop (k + us.length)).toArray) v N sz (css.set i (vs.take off ++ us ++ vs.drop (off + us.length))) := by
  have hlt : i < css.length := (List.getElem?_eq_some_iff.1 hi).1
  obtain ⟨A, c', hv', hnc, hcells⟩ := hW
  obtain ⟨ad', rfl, ⟨cur, el, hg⟩, hcell⟩ := hcells (by omega)
  rw [hv] at hv'
  injection hv' with e1 e2 e3
  injection e1 with e1
  subst e1 e2 e3
  have hgrid := grid_flat hs hcell
  have hvs : vs.length = sz := hs vs (List.mem_of_getElem? hi)
  have hfl := flat_length hs
  have hbnd : i * sz + off + us.length ≤ css.length * sz := by
    have : (i + 1) * sz ≤ css.length * sz := Nat.mul_le_mul_right _ hlt
    rw [Nat.add_mul, Nat.one_mul] at this
    omega
  have hat : ∀ q, q < css.length * sz → ad.add q = ⟨ad.block, ad.off + q, none⟩ ∧ cur[ad.off + q]? = css.flatten[q]? := by
    intro q hq
    have hq' : css.flatten[q]? = some css.flatten[q] := List.getElem?_eq_getElem (by rw [hfl]; exact hq)
    have h1 := hgrid q _ hq'
    have hb : (ad.add q).block = ad.block := block_of_add ad q
    have ho : (ad.add q).off = ad.off + q := by unfold Addr.add; split <;> simp_all
    unfold World.cell? at h1
    rw [hb, hg] at h1
    simp only at h1
    split at h1
    · cases h1
    · rename_i hsp
      have hsp' : (ad.add q).spot = none := by simpa using hsp
      refine ⟨?_, by rw [hq', ← h1, ho]⟩
      cases hA : ad.add q with
      | mk b o s => rw [hA] at hb ho hsp'; simp at hb ho hsp'; simp [hb, ho, hsp']
  have hk0 := (hat (i * sz + off) (by omega)).1
  have hsz : ad.off + (i * sz + off) + us.length ≤ cur.size := by
    have h1 := (hat (i * sz + off + (us.length - 1)) (by omega)).2
    rw [List.getElem?_eq_getElem (by rw [hfl]; omega)] at h1
    have := (Array.getElem?_eq_some_iff.1 h1).1
    omega
  refine ⟨ad.block, cur, el, ad.off + (i * sz + off), hg, ?_, by rw [hk0], hsz, some ad, c, hv, hnc, fun _ => ⟨ad, rfl, ⟨_, el, setRow_heap w _ cur _ el _ hg⟩, ?_⟩⟩
  · rw [hv]
    cases c with
    | zero => omega
    | succ c => rfl
  · have hcss' : ∀ c' ∈ css.set i (vs.take off ++ us ++ vs.drop (off + us.length)), c'.length = sz := by
      intro c' hc'
      rcases List.mem_or_eq_of_mem_set hc' with hc' | rfl
      · exact hs c' hc'
      · simp; omega
    have hfs := flat_set hs hi hl
    intro r cs hr j u hu
    have hf := flat_get hcss' r cs hr j u hu
    have hlen : (css.set i (vs.take off ++ us ++ vs.drop (off + us.length))).flatten.length = css.length * sz := by rw [flat_length hcss', List.length_set]
    have hq : r * sz + j < css.length * sz := by rw [← hlen]; exact (List.getElem?_eq_some_iff.1 hf).1
    obtain ⟨q1, q2⟩ := hat _ hq
    rw [q1]
    unfold World.cell?
    rw [setRow_heap w _ cur _ el _ hg]
    simp only [Option.isSome_none, Bool.false_eq_true, if_false]
    rw [hfs] at hf
    rw [← hf, List.getElem?_toArray]
    have hct : ∀ m, cur.toList[ad.off + m]? = cur[ad.off + m]? := fun m => by simp
    have l1 : (cur.toList.take (ad.off + (i * sz + off))).length = ad.off + (i * sz + off) := by simp; omega
    have l2 : (css.flatten.take (i * sz + off)).length = i * sz + off := by rw [List.length_take, hfl]; omega
    rw [get3, get3, l1, l2]
    by_cases h : r * sz + j < i * sz + off
    · rw [if_pos (by omega), if_pos h, List.getElem?_take_of_lt (by omega), List.getElem?_take_of_lt h, hct, q2]
    · rw [if_neg (by omega), if_neg h]
      by_cases h' : r * sz + j < i * sz + off + us.length
      · rw [if_pos (by omega), if_pos h']
        congr 1
        omega
      · rw [if_neg (by omega), if_neg h', List.getElem?_drop, List.getElem?_drop]
        have e1 : ad.off + (i * sz + off) + us.length + (ad.off + (r * sz + j) - (ad.off + (i * sz + off)) - us.length) = ad.off + (r * sz + j) := by omega
        have e2 : i * sz + off + us.length + (r * sz + j - (i * sz + off) - us.length) = r * sz + j := by omega
        rw [e1, e2, hct, q2]

section
variable {P : Program} {E : Nat → Option TI} {vl : Operand → Option AV} {σ : St}
variable {dst : Option Tmp} {type : TypeId} {pos : String} {after : Array Edge} {guard : Option (Nat × Bool)} {K : AV → St → Prop}

def SoundE (P : Program) (vl : Operand → Option AV) (o : Oper) (σ : St) (K : AV → St → Prop) : Prop :=
  ∃ av σ', K av σ' ∧ σ'.env = σ.env ∧ σ.next ≤ σ'.next ∧ σ'.wf ∧ GoesE P vl o σ σ' av

theorem wp_skip_op {o : Oper} {a : Act} {w w' : World} {Kc : Act → World → Prop} {Q : Exit → Act → World → Prop}
    (h : (execOp a.eval o).run P w = .ok .skip w') (hk : Kc (a.put o.dst undef) w') : o.wp P a w Kc Q := by
  unfold Oper.wp
  rw [h]
  exact hk

theorem run_storeVar {t : Nat} {ti : TI} (hE : TIok P t ti) (g off : Nat) (el : TypeId) (cur : Array Value) (w : World) (hg : w.heap[g]? = some (.cells cur el (0, 0))) (u : Value) (us : List Value) (hu : u.cells = us.toArray)
    (hl : us.length = ti.size) (hb : off + us.length ≤ cur.size) (h1 : ∀ v ∈ us, v.oneCell' = true) :
    (storeVar t ⟨g, off, none⟩ u).run P w = .ok () (w.setRow g (cur.toList.take off ++ us ++ cur.toList.drop (off + us.length)).toArray) := by
  obtain ⟨i, z, hi, hs, _⟩ := hE.info
  have hst := run_storeCells_at P g off el us 0 cur w hg (by simpa using hb) h1
  simp only [Nat.add_zero] at hst
  have hsz : (us.toArray.size ≠ i.size) = False := by simp [hl, hs]
  simp [storeVar, hu, sizeOf, typeInfo, hi, hl, hs, hst]

theorem Vm.put_eq {α : Type} (l : List (Nat × α)) (n : Nat) (v : α) : Vm.put l n v = (n, v) :: del l n := rfl

theorem wf_put {l : List (Nat × Ob)} {n k : Nat} {v : Ob} (h : ∀ id o, get l id = some o → id < k) (hn : n < k) : ∀ id o, get (Vm.put l n v) id = some o → id < k := by
  intro id o ho
  by_cases e : id = n
  · subst e; exact hn
  · rw [get_put_other _ _ _ _ e] at ho; exact h id o ho
theorem wf_dels {l : List (Nat × Ob)} {k : Nat} {ids : List Nat} (h : ∀ id o, get l id = some o → id < k) : ∀ id o, get (dels l ids) id = some o → id < k := by
  intro id o ho
  by_cases e : id ∈ ids
  · rw [(get_dels ids l id).1 e] at ho; cases ho
  · rw [(get_dels ids l id).2 e] at ho; exact h id o ho

theorem sound_store (hE : TOk P E) (hw : σ.wf) {t : Nat} {x v : Operand} (h : opE E vl (.store t x v) σ K) : SoundE P vl ⟨dst, .store t x v, type, pos, after, guard⟩ σ K := by
  simp only [opE] at h
  have h' := need_some h; clear h
  obtain ⟨ti, e, h⟩ := h'
  have h' := need_some h; clear h
  obtain ⟨av, eav, h⟩ := h'
  have h' := need_some h; clear h
  obtain ⟨ns, ens, h⟩ := h'
  have h' := need_some h; clear h
  obtain ⟨vx, evx, h⟩ := h'
  have hx : x ∈ (Op.store t x v).operands := by simp [Op.operands]
  have hv : v ∈ (Op.store t x v).operands := by simp [Op.operands]
  split at h
  · rename_i id off
    have h' := need_some h; clear h
    obtain ⟨ob, eo, h⟩ := h'
    split at h
    · rename_i cs
      obtain ⟨⟨hl, hb⟩, h⟩ := h
      refine ⟨_, _, h, rfl, Nat.le_refl _, wf_put hw (hw id _ eo), ?_⟩
      intro w0 G w a Kc Q hM hops hfr hK
      have hxr := hops x hx _ evx
      simp only [AV.rep] at hxr
      obtain ⟨h1, ad, h2, h3⟩ := hxr
      obtain ⟨g, vs, el, h4, h5, h6, h7, hH⟩ := hM.obs id _ h1 eo
      rw [h2] at h4
      injection h4 with h4
      injection h4 with h4
      subst h4
      rw [lit_add] at h3
      obtain ⟨us, h8, h9⟩ := cellsOf_rep ens (hops v hv _ eav)
      have hul := repCs_length h9
      have hvl := repCs_length h6
      have hrun := run_storeVar (hE t ti e) g off el vs.toArray w h5 (a.eval v) us h8 (by omega) (by simp; omega) (repCs_one h9)
      have hlv : Lv σ.objs G id := ⟨h1, _, eo⟩
      have hhd : hd (G.φ id) = [g] := by rw [h2]; rfl
      have hnew := setRow_heap w g vs.toArray (vs.toArray.toList.take off ++ us ++ vs.toArray.toList.drop (off + us.length)).toArray el (0, 0) h5
      obtain ⟨hM', hp⟩ := hM.move (O' := Vm.put σ.objs id (.box (cs.take off ++ ns ++ cs.drop (off + ns.length)))) (w' := w.setRow g (vs.toArray.toList.take off ++ us ++ vs.toArray.toList.drop (off + us.length)).toArray)
        id (G.φ id) [g] [] (fun j hj _ => get_put_other _ _ _ _ hj) (by simp) (fun _ => rfl) rfl rfl rfl (by simp [World.setRow])
        (fun b _ hn => setRow_other w g b _ (fun e => hn id hlv (.inr rfl) (by rw [hH, e]; simp))) (by simp) (fun b hbb => by
          simp at hbb
          subst hbb
          exact ⟨.inr ⟨id, hlv, .inr rfl, by rw [h7]; simp⟩, _, _, hnew⟩) (fun b hbb => by
          rw [hhd] at hbb
          exact ⟨hbb, .inr ⟨id, hlv, by rw [hH]; exact hbb⟩⟩) (fun o ho p => by
          rw [get_put_same] at ho
          injection ho with ho
          subst ho
          refine ⟨g, _, el, by simp only [Gh.set, if_pos]; exact h2, hnew, repCs_pres p _ _ ?_, by simp only [Gh.set, if_pos], by simp only [Gh.set, if_pos]; exact hhd⟩
          rw [← hul]
          exact repCs_append (repCs_append (repCs_take off h6) h9) (repCs_drop _ h6))
      refine wp_skip_op (w' := w.setRow g (vs.toArray.toList.take off ++ us ++ vs.toArray.toList.drop (off + us.length)).toArray) ?_ (hK _ _ _ hM' hp ?_ (fun j hj => ?_))
      · simp [execOp, Instr.storeAt, Instr.sureAddr, h3, hrun]
      · simp only [AV.rep]
      · rcases hj with hj | hj
        · exact hfr j hj
        · subst hj; exact hw _ _ eo
    · exact h.elim
  · rename_i id sz i off
    have h' := need_some h; clear h
    obtain ⟨ob, eo, h⟩ := h'
    split at h
    · rename_i own app sz' rows
      obtain ⟨rfl, cs, hcs, ⟨hl, hb⟩, hpos, h⟩ := h
      have h' := need_some h; clear h
      obtain ⟨tm, etm, hnd, h⟩ := h'
      have hnd' := nodupB_iff hnd
      obtain ⟨hid, hids⟩ := List.nodup_cons.1 hnd'
      refine ⟨_, _, h, rfl, Nat.le_refl _, wf_put (wf_dels hw) (hw id _ eo), ?_⟩
      intro w0 G w a Kc Q hM hops hfr hK
      have hxr := hops x hx _ evx
      simp only [AV.rep] at hxr
      obtain ⟨h1, ad, n, c, h2, h3⟩ := hxr
      have hlv : Lv σ.objs G id := ⟨h1, _, eo⟩
      obtain ⟨css0, F0, _, _, _, himm0⟩ := hM.row h1 eo
      obtain ⟨css, F', h4, h5, h6, h7⟩ := hM.obs id _ h1 eo
      obtain ⟨FA, Fi, FB, vs, hF', h8, h9, hset⟩ := repRows_set h4 hcs
      obtain ⟨us, h10, h11⟩ := cellsOf_rep ens (hops v hv _ eav)
      have hul := repCs_length h11
      obtain ⟨Fm, m1, m2, m3, m4⟩ := moveCs_rep hM etm h11 hids
      have hvl : vs.length = cs.length := repCells_length h9
      have hvs : vs.length = sz := h5 vs (List.mem_of_getElem? h8)
      have hlt : i < rows.length := (List.getElem?_eq_some_iff.1 hcs).1
      have hcss' : ∀ c' ∈ css.set i (vs.take off ++ us ++ vs.drop (off + us.length)), c'.length = sz := by
        intro c' hc'
        rcases List.mem_or_eq_of_mem_set hc' with hc' | rfl
        · exact h5 c' hc'
        · simp; omega
      have hpos' := Nat.le_of_ble_eq_true hpos
      -- the block that is written
      have key : ∃ g cur el k, w.heap[g]? = some (.cells cur el (0, 0)) ∧ hd (G.φ id) = [g] ∧ a.eval x = .pointer (some ⟨g, k, none⟩) ∧ k + us.length ≤ cur.size ∧ G.h id = hd (G.φ id) ∧
          (if app then RowOwn (w.setRow g (cur.toList.take k ++ us ++ cur.toList.drop (k + us.length)).toArray) (G.φ id) rows.length sz (css.set i (vs.take off ++ us ++ vs.drop (off + us.length))).flatten
            else RowWeak (w.setRow g (cur.toList.take k ++ us ++ cur.toList.drop (k + us.length)).toArray) (G.φ id) rows.length sz (css.set i (vs.take off ++ us ++ vs.drop (off + us.length)))) := by
        cases app with
        | true =>
          simp only [if_true] at h6 ⊢
          rcases h6.1.2 with ⟨A, hA, hn0⟩ | ⟨g, o, cap, cur, el, hφ, hcap, hg, hnc, hcm, hcsz, htk⟩
          · omega
          have hhd : hd (G.φ id) = [g] := by rw [hφ]; cases cap with | zero => omega | succ c => rfl
          rw [hφ] at h2
          injection h2 with h2 _ _
          injection h2 with h2
          subst h2
          rw [Addr.add_lit] at h3
          have hN : o + rows.length * sz ≤ cur.size := by rw [hcsz]; exact Nat.add_le_add_left (Nat.mul_le_mul_right _ hnc) _
          have hk : i * sz + off + us.length ≤ rows.length * sz := by
            have : (i + 1) * sz ≤ rows.length * sz := Nat.mul_le_mul_right _ hlt
            rw [Nat.add_mul, Nat.one_mul] at this
            omega
          refine ⟨g, cur, el, o + (i * sz + off), hg, hhd, h3, by omega, h6.2, ?_⟩
          have hnew := setRow_heap w g cur (cur.toList.take (o + (i * sz + off)) ++ us ++ cur.toList.drop (o + (i * sz + off) + us.length)).toArray el (0, 0) hg
          refine ⟨by rw [flat_length hcss', List.length_set, repRows_length h4], .inr ⟨g, o, cap, _, el, hφ, hcap, hnew, hnc, hcm, ?_, ?_⟩⟩
          · simp only [List.size_toArray, List.length_append, List.length_take, List.length_drop, Array.length_toList]
            omega
          · have hle : o ≤ (cur.toList.take (o + (i * sz + off))).length := by rw [List.length_take, Array.length_toList]; omega
            have hdo : (cur.toList.take (o + (i * sz + off)) ++ us ++ cur.toList.drop (o + (i * sz + off) + us.length)).drop o = (cur.toList.drop o).take (i * sz + off) ++ us ++ (cur.toList.drop o).drop (i * sz + off + us.length) := by
              rw [List.append_assoc, List.drop_append_of_le_length hle, List.drop_take, Nat.add_sub_cancel_left, List.drop_drop, List.append_assoc, show o + (i * sz + off) + us.length = o + (i * sz + off + us.length) from Nat.add_assoc _ _ _]
            show (_ : List Value) = _
            rw [show ((cur.toList.take (o + (i * sz + off)) ++ us ++ cur.toList.drop (o + (i * sz + off) + us.length)).toArray).toList = cur.toList.take (o + (i * sz + off)) ++ us ++ cur.toList.drop (o + (i * sz + off) + us.length) from rfl, hdo, flat_set h5 h8 (by omega), ← htk]
            have hDl : (cur.toList.drop o).length = cur.size - o := by rw [List.length_drop, Array.length_toList]
            generalize cur.toList.drop o = D at hDl ⊢
            have e1 : (D.take (i * sz + off) ++ us).length = i * sz + off + us.length := by simp; omega
            rw [List.take_take, Nat.min_eq_left (by omega), List.drop_take, List.take_append, e1, List.take_of_length_le (by omega)]
        | false =>
          simp only [Bool.false_eq_true, if_false] at h6 ⊢
          obtain ⟨hW, hh6⟩ := h6
          have hh6' : G.h id = hd (G.φ id) := by
            rcases hh6 with h | ⟨hr0, _⟩
            · exact h
            · rw [hr0] at hlt; simp at hlt
          obtain ⟨g, cur, el, k, a1, a2, a3, a4, a5⟩ := weak_store (off := off) (us := us) hW h5 h2 h8 (by omega) (by omega) (repRows_length h4)
          exact ⟨g, cur, el, k, a1, a2, by rw [h3, a3], a4, hh6', a5⟩
      obtain ⟨g, cur, el, k, hg, hhd, h3', hkb, hHd, hrowNew⟩ := key
      have hrun := run_storeVar (hE t ti e) g k el cur w hg (a.eval v) us h10 (by omega) hkb (repCs_one h11)
      have hnew := setRow_heap w g cur (cur.toList.take k ++ us ++ cur.toList.drop (k + us.length)).toArray el (0, 0) hg
      rw [← hHd] at hhd
      obtain ⟨F1, F2, F3, hFi, r1, r2, r3⟩ := repCells_split off us.length h9
      generalize hw' : w.setRow g (cur.toList.take k ++ us ++ cur.toList.drop (k + us.length)).toArray = w' at hrun hnew hrowNew
      have hoth : ∀ b, b ≠ g → w'.heap[b]? = w.heap[b]? := fun b hb => by rw [← hw']; exact setRow_other w g b _ hb
      -- nothing nested lies in the block that is written
      have hFg : ∀ b ∈ F', b ≠ g := by
        intro b hb e
        subst e
        cases own with
        | true =>
          simp only [if_true] at h7
          have := hM.nodup id hlv
          rw [h7, hhd] at this
          exact (List.nodup_append.1 this).2.2 b (by simp) b hb rfl
        | false =>
          simp only [Bool.false_eq_true, if_false] at h7
          exact h7.2 id hlv b hb (by rw [hhd]; simp)
      have hmg : ∀ b ∈ Fm, b ≠ g := fun b hb e => m4 b hb id hlv hid (by rw [hhd, e]; simp)
      have hsub : ∀ b, (b ∈ FA ∨ b ∈ F1 ∨ b ∈ F3 ∨ b ∈ FB) → b ∈ F' := by
        intro b hb
        rw [hF', hFi]
        rcases hb with hb | hb | hb | hb <;> simp [hb]
      -- the new footprint
      have hrows : repRows w' (rows.set i (cs.take off ++ tm.1 ++ cs.drop (off + ns.length))) (css.set i (vs.take off ++ us ++ vs.drop (off + us.length))) (FA ++ (F1 ++ Fm ++ F3) ++ FB) := by
        refine hset _ _ _ w' ?_ (fun b hb => hoth b (hFg b (hsub b (by rcases List.mem_append.1 hb with hb | hb <;> simp [hb]))))
        rw [← hul]
        exact repCells_append (repCells_append (repCells_keep _ _ _ r1 (fun b hb => hoth b (hFg b (hsub b (by simp [hb]))))) (repCells_keep _ _ _ m1 (fun b hb => hoth b (hmg b hb)))) (repCells_keep _ _ _ r3 (fun b hb => hoth b (hFg b (hsub b (by simp [hb])))))
      have hFsub : ∀ b ∈ FA ++ (F1 ++ Fm ++ F3) ++ FB, b ∈ F' ∨ b ∈ Fm := by
        intro b hb
        simp only [List.mem_append] at hb
        rcases hb with (hb | ((hb | hb) | hb)) | hb
        · exact .inl (hsub b (by simp [hb]))
        · exact .inl (hsub b (by simp [hb]))
        · exact .inr hb
        · exact .inl (hsub b (by simp [hb]))
        · exact .inl (hsub b (by simp [hb]))
      have hgcell : ∃ arr e, w'.heap[g]? = some (.cells arr e (0, 0)) := ⟨_, _, hnew⟩
      have hold : ∀ b, b ≠ g → (∃ j, Lv σ.objs G j ∧ b ∈ G.Φ j) → ∃ arr e, w'.heap[b]? = some (.cells arr e (0, 0)) := fun b hb ⟨j, hj, hbj⟩ => by
        obtain ⟨_, arr, e, hh⟩ := hM.lo j hj b hbj
        exact ⟨arr, e, by rw [hoth b hb]; exact hh⟩
      obtain ⟨hM', hp⟩ := hM.move (O' := Vm.put (dels σ.objs tm.2) id (.row own app sz (rows.set i (cs.take off ++ tm.1 ++ cs.drop (off + ns.length))))) (w' := w')
        id (G.φ id) (G.h id ++ (if own then FA ++ (F1 ++ Fm ++ F3) ++ FB else [])) tm.2
        (fun j hj hn => by rw [get_put_other _ _ _ _ hj, (get_dels _ _ _).2 hn]) (fun j hj hn => by rw [get_put_other _ _ _ _ hj, (get_dels _ _ _).1 hn]) (fun _ => rfl)
        (by rw [← hw']; rfl) (by rw [← hw']; rfl) (by rw [← hw']; rfl) (by rw [← hw']; simp [World.setRow])
        (fun b _ hn => hoth b (fun e => hn id hlv (.inr rfl) (by rw [hhd, e]; simp)))
        (by
          cases own with
          | false => simp [hhd]
          | true =>
            simp only [if_true]
            simp only [if_true] at h7
            obtain ⟨m5, m6⟩ := m3 rfl
            have hnd2 := hM.nodup id hlv
            rw [h7, hF', hFi] at hnd2
            have e1 : G.h id ++ (FA ++ (F1 ++ F2 ++ F3) ++ FB) = (G.h id ++ FA ++ F1) ++ F2 ++ (F3 ++ FB) := by simp
            have e2 : G.h id ++ (FA ++ (F1 ++ Fm ++ F3) ++ FB) = (G.h id ++ FA ++ F1) ++ Fm ++ (F3 ++ FB) := by simp
            rw [e1] at hnd2
            rw [e2]
            refine nodup_swap hnd2 m5 (fun b hb hbm => ?_)
            obtain ⟨j, hj, hbj⟩ := m6 b hbm
            refine hM.disj j id (m2 j hj) hlv (fun e => hid (e ▸ hj)) b hbj ?_
            rw [h7, hF', hFi]
            simp only [List.mem_append] at hb ⊢
            rcases hb with ((hb | hb) | hb) | (hb | hb) <;> simp [hb])
        (by
          intro b hbb
          rcases List.mem_append.1 hbb with hb1 | hb1
          · rw [hhd] at hb1
            simp at hb1
            subst hb1
            exact ⟨.inr ⟨id, hlv, .inr rfl, hM.hds id hlv b (by rw [hhd]; simp)⟩, hgcell⟩
          · cases own with
            | false => simp at hb1
            | true =>
              simp only [if_true] at hb1 h7
              rcases hFsub b hb1 with hb2 | hb2
              · have hbΦ : b ∈ G.Φ id := by rw [h7]; simp [hb2]
                exact ⟨.inr ⟨id, hlv, .inr rfl, hbΦ⟩, hold b (hFg b hb2) ⟨id, hlv, hbΦ⟩⟩
              · obtain ⟨j, hj, hbj⟩ := (m3 rfl).2 b hb2
                exact ⟨.inr ⟨j, m2 j hj, .inl hj, hbj⟩, hold b (hmg b hb2) ⟨j, m2 j hj, hbj⟩⟩)
        (fun b hbb => by rw [← hHd] at hbb; exact ⟨by simp [hbb], .inr ⟨id, hlv, hbb⟩⟩)
        (fun o ho p => by
          rw [get_put_same] at ho
          injection ho with ho
          subst ho
          refine ⟨_, _, hrows, hcss', ?_, ?_⟩
          · cases app with
            | true => simp only [if_true, Gh.set, List.length_set] at hrowNew ⊢; exact ⟨hrowNew, trivial⟩
            | false => simp only [if_true, Bool.false_eq_true, if_false, Gh.set, List.length_set] at hrowNew ⊢; exact ⟨hrowNew, .inl trivial⟩
          · cases own with
            | true => simp only [if_true, Gh.set, hHd]
            | false =>
              simp only [Bool.false_eq_true, if_false, Gh.set, if_true, List.append_nil, hHd, true_and]
              simp only [Bool.false_eq_true, if_false] at h7
              intro j hj b hb hbj
              have hjl : Lv σ.objs G j ∧ j ∉ tm.2 := by
                obtain ⟨ha, o', ho'⟩ := hj
                by_cases e : j = id
                · subst e; exact ⟨hlv, hid⟩
                · rw [get_put_other _ _ _ _ e] at ho'
                  by_cases hjm : j ∈ tm.2
                  · rw [(get_dels _ _ _).1 hjm] at ho'; cases ho'
                  · rw [(get_dels _ _ _).2 hjm] at ho'
                    rcases ha with ha | ha
                    · exact ⟨⟨ha, o', ho'⟩, hjm⟩
                    · exact absurd ha e
              have hbj' : b ∈ G.h j := by
                by_cases e : j = id
                · subst e; rw [hHd]; simpa using hbj
                · simpa [e] using hbj
              rcases hFsub b hb with hb2 | hb2
              · exact h7.2 j hjl.1 b hb2 hbj'
              · exact m4 b hb2 j hjl.1 hjl.2 hbj')
      refine wp_skip_op (w' := w') ?_ (hK _ _ _ hM' hp ?_ (fun j hj => ?_))
      · simp [execOp, Instr.storeAt, Instr.sureAddr, h3', hrun]
      · simp only [AV.rep]
      · rcases hj with hj | hj
        · exact hfr j hj
        · subst hj; exact hw _ _ eo
    · exact h.elim
  · exact h.elim
end
end Go.Vm

namespace Go.Vm
open Go.RowKit

theorem scal_none {w : World} {x : T} {v : Value} {F : List Nat} (h : isScal x = true) (hr : x.rep w v F) : F = [] := by
  cases x <;> simp [isScal] at h <;> exact hr.2
theorem scals_none {w : World} : ∀ {xs : List T} {vs : List Value} {F : List Nat}, (∀ x ∈ xs, isScal x = true) → repCells w xs vs F → F = []
  | [], vs, F, _, h => by simp only [repCells] at h; exact h.2
  | x :: xs, vs, F, hs, h => by
    simp only [repCells] at h
    obtain ⟨v, cs', F1, F2, _, rfl, h3, h4⟩ := h
    rw [scal_none (hs x (by simp)) h3, scals_none (fun y hy => hs y (by simp [hy])) h4]
    rfl
theorem scalss_none {w : World} : ∀ {xs : List (List T)} {vs : List (List Value)} {F : List Nat}, (∀ r ∈ xs, ∀ x ∈ r, isScal x = true) → repRows w xs vs F → F = []
  | [], vs, F, _, h => by simp only [repRows] at h; exact h.2
  | x :: xs, vs, F, hs, h => by
    simp only [repRows] at h
    obtain ⟨v, cs', F1, F2, _, rfl, h3, h4⟩ := h
    rw [scals_none (hs x (by simp)) h3, scalss_none (fun y hy => hs y (by simp [hy])) h4]
    rfl
theorem repRows_one {w : World} : ∀ {xs : List (List T)} {vs : List (List Value)} {F : List Nat}, repRows w xs vs F → ∀ v ∈ vs.flatten, v.oneCell' = true
  | [], vs, F, h, v, hv => by simp only [repRows] at h; simp [h.1] at hv
  | x :: xs, vs, F, h, v, hv => by
    simp only [repRows] at h
    obtain ⟨cs, css', F1, F2, rfl, rfl, h3, h4⟩ := h
    rw [List.flatten_cons] at hv
    rcases List.mem_append.1 hv with hv | hv
    · exact repCells_one h3 v hv
    · exact repRows_one h4 v hv
theorem repRows_row_len {w : World} {rows : List (List T)} {css : List (List Value)} {F : List Nat} {n : Nat} (h : repRows w rows css F) (hl : ∀ r ∈ rows, r.length = n) : ∀ cs ∈ css, cs.length = n := by
  intro cs hcs
  obtain ⟨i, hi, he⟩ := List.getElem_of_mem hcs
  have hi' : i < rows.length := by rw [← repRows_length h]; exact hi
  obtain ⟨cs', F1, h1, h2, _⟩ := repRows_get h i rows[i] (List.getElem?_eq_getElem hi')
  rw [List.getElem?_eq_getElem hi] at h1
  injection h1 with h1
  rw [← he, h1, repCells_length h2]
  exact hl _ (List.getElem_mem hi')

section
variable {P : Program} {E : Nat → Option TI} {vl : Operand → Option AV} {σ : St}
variable {dst : Option Tmp} {type : TypeId} {pos : String} {after : Array Edge} {guard : Option (Nat × Bool)} {K : AV → St → Prop}

/-- What is appended: a slice value that shows 'rows'; 'J' are the objects that go with it. -/
structure Src (O : List (Nat × Ob)) (G : Gh) (w : World) (u : Value) (rows : List (List T)) (sz : Nat) (J : List Nat) (own : Bool) where
  css : List (List Value)
  F : List Nat
  rep : repRows w rows css F
  len : ∀ cs ∈ css, cs.length = sz
  val : ∃ A c, u = .slice A rows.length c ∧ (0 < rows.length → ∃ ad, A = some ad ∧ ∀ (i : Nat) cs, css[i]? = some cs → ∀ (j : Nat) v, cs[j]? = some v → w.cell? (ad.add (i * sz + j)) = some v)
  live : ∀ i ∈ J, Lv O G i
  owns : own = true → F.Nodup ∧ ∀ b ∈ F, ∃ i, i ∈ J ∧ b ∈ G.Φ i
  imm : ∀ b ∈ F, ∀ j, Lv O G j → j ∉ J → b ∉ G.h j

/-- As 'GoesE'; and what the objects of 'J' held is as it was, and nobody writes it any more. -/
def GoesX (P : Program) (vl : Operand → Option AV) (o : Oper) (σ : St) (J : List Nat) (σ' : St) (av : AV) : Prop :=
  ∀ (w0 : Base) G w a (Kc : Act → World → Prop) (Q : Exit → Act → World → Prop), Mem w0 σ.objs G w → OpsRep vl o.op σ.objs G w a → (∀ j, G.A j → j < σ.next) →
    (∀ G' v w', Mem w0 σ'.objs G' w' → Pres σ.objs G w σ'.objs G' w' → av.rep σ'.objs G' w' v → (∀ j, G'.A j → j < σ'.next) →
      (∀ j ∈ J, ∀ q ∈ G.Φ j, w'.heap[q]? = w.heap[q]? ∧ ∀ i, Lv σ'.objs G' i → q ∉ G'.h i) → Kc (a.put o.dst v) w') → o.wp P a w Kc Q
theorem GoesX.goes {o : Oper} {σ' : St} {J : List Nat} {av : AV} (h : GoesX P vl o σ J σ' av) : GoesE P vl o σ σ' av := fun w0 G w a Kc Q hM hops hfr hK =>
  h w0 G w a Kc Q hM hops hfr (fun G' v w' h1 h2 h3 h4 _ => hK G' v w' h1 h2 h3 h4)

theorem append_goes {t e : Nat} {ti te : TI} (hE : TOk P E) (he : E t = some ti) (hk : ti.k = .sl e) (hee : E e = some te) {x y : Operand} {vx : AV} {b : Bool × List (List T) × Option Nat × List Nat}
    (hvx : vl x = some vx) (hb : baseOf σ.objs vx = some b) (hbsz : b.2.2.1 = none ∨ b.2.2.1 = some te.size) {rows : List (List T)} {J : List Nat} {own : Bool} (hown : own = true → b.1 = true)
    (hnd : (b.2.2.2 ++ J).Nodup) (hbd : (b.2.1.length + rows.length) * te.bytes ≤ 140737488355328 ∧ b.2.1.length + rows.length ≤ 140737488355328) (_hw : σ.wf)
    (hsrc : ∀ (w0 : Base) G w a, Mem w0 σ.objs G w → OpsRep vl (Op.call { callee := .builtin .append, args := ⟨[x, y]⟩, argTypes := ⟨[t, t]⟩ }) σ.objs G w a → Nonempty (Src σ.objs G w (a.eval y) rows te.size J own)) :
    GoesX P vl ⟨dst, .call { callee := .builtin .append, args := ⟨[x, y]⟩, argTypes := ⟨[t, t]⟩ }, type, pos, after, guard⟩ σ J
      ⟨σ.env, (σ.next, .row own true te.size (b.2.1 ++ rows)) :: dels σ.objs (b.2.2.2 ++ J), σ.next + 1⟩ (.c (.ref σ.next)) := by
  intro w0 G w a Kc Q hM hops hfr hK
  have hx : x ∈ (Op.call { callee := .builtin .append, args := ⟨[x, y]⟩, argTypes := ⟨[t, t]⟩ }).operands := by simp [Op.operands, Call.operands]
  obtain ⟨⟨scss, sF, srep, slen, sval, slive, sowns, simm⟩⟩ := hsrc w0 G w a hM hops
  obtain ⟨A, c, hu, hcells⟩ := sval
  obtain ⟨d, hd_, _, hkk⟩ := (hE t ti he).desc
  rw [hk] at hkk
  simp only [TKok] at hkk
  subst hkk
  obtain ⟨i, z, hi, hs, hbs, hz, hzc, hzs⟩ := (hE e te hee).info
  obtain ⟨hnd1, hnd2, hnd3⟩ := List.nodup_append.1 hnd
  -- the base
  have hbase : ∃ css F', repRows w b.2.1 css F' ∧ (∀ cs ∈ css, cs.length = te.size) ∧ RowOwn w (a.eval x) b.2.1.length te.size css.flatten ∧ (∀ i ∈ b.2.2.2, Lv σ.objs G i) ∧
      (∀ q ∈ hd (a.eval x), ∃ i, i ∈ b.2.2.2 ∧ q ∈ G.h i) ∧ (b.1 = true → (hd (a.eval x) ++ F').Nodup ∧ ∀ q ∈ F', ∃ i, i ∈ b.2.2.2 ∧ q ∈ G.Φ i) ∧ Imm σ.objs G F' := by
    have hr := hops x hx _ hvx
    unfold baseOf at hb
    split at hb
    · injection hb with hb
      subst hb
      have hB : a.eval x = .slice none 0 0 := hr
      rw [hB]
      exact ⟨[], [], by simp [repRows], by simp, ⟨by simp, .inl ⟨none, rfl, rfl⟩⟩, by simp, by simp [hd], by simp [hd], fun _ _ q hq => by simp at hq⟩
    · injection hb with hb
      subst hb
      obtain ⟨B, hB⟩ := hr
      rw [hB]
      refine ⟨[], [], by simp [repRows], by simp, ⟨by simp, .inl ⟨B, rfl, rfl⟩⟩, by simp, ?_, ?_, fun _ _ q hq => by simp at hq⟩
      · cases B <;> simp [hd]
      · cases B <;> simp [hd]
    · rename_i id
      split at hb
      · rename_i bo sz brows hg
        injection hb with hb
        subst hb
        obtain ⟨h1, h2, _⟩ := hr
        have hlv : Lv σ.objs G id := ⟨h1, _, hg⟩
        obtain ⟨_, F1, _, _, _, him⟩ := hM.row h1 hg
        obtain ⟨css, F', h3, h4, h5, h6⟩ := hM.obs id _ h1 hg
        simp only [if_true] at h5
        have hsz : sz = te.size := by rcases hbsz with h | h <;> simp_all
        subst hsz
        rw [h2]
        refine ⟨css, F', h3, h4, h5.1, by simpa using hlv, fun q hq => ⟨id, by simp, by rw [h5.2]; exact hq⟩, fun ho => ?_, ?_⟩
        · have ho' : bo = true := ho
          subst ho'
          simp only [if_true] at h6
          have := hM.nodup id hlv
          rw [h6, h5.2] at this
          exact ⟨this, fun q hq => ⟨id, by simp, by rw [h6]; simp [hq]⟩⟩
        · cases bo with
          | true =>
            simp only [if_true] at h6
            intro j hj q hq hqj
            by_cases e : j = id
            · subst e
              have := hM.nodup j hj
              rw [h6] at this
              exact (List.nodup_append.1 this).2.2 q hqj q hq rfl
            · exact hM.disj id j hlv hj (fun e' => e e'.symm) q (by rw [h6]; simp [hq]) (hM.hds j hj q hqj)
          | false => simp only [Bool.false_eq_true, if_false] at h6; exact h6.2
      · cases hb
    · cases hb
  obtain ⟨css, F', hr1, hr2, hr3, hr4, hr5, hr6, hr7⟩ := hbase
  -- the run
  have hnl : scss.flatten.length = rows.length * i.size := by rw [flat_length slen, repRows_length srep, hs]
  obtain ⟨v', w', hrun, hown', hgrow, hwhere⟩ := run_append (P := P) w t type e i z hd_ hi hz (by rw [hzs, hs]) (a.eval x) b.2.1.length css.flatten (by rw [hs]; exact hr3) A rows.length c scss.flatten hnl
    (fun hm => by
      obtain ⟨ad, hA, hg⟩ := hcells hm
      exact ⟨ad, hA, grid_flat slen hg⟩) (repRows_one srep) (by rw [hbs]; exact hbd.1) hbd.2
  rw [hs] at hown'
  have hhdle : ∀ q ∈ hd (a.eval x), q < w.heap.size := fun q hq => by
    obtain ⟨j, hj, hqj⟩ := hr5 q hq
    obtain ⟨_, arr, e', hh⟩ := hM.lo j (hr4 j hj) q (hM.hds j (hr4 j hj) q hqj)
    exact (Array.getElem?_eq_some_iff.1 hh).1
  have hsame : ∀ q, q < w.heap.size → q ∉ hd (a.eval x) → w'.heap[q]? = w.heap[q]? := fun q hq hn => hgrow.block q hq (fun e' => by
    cases hx' : hd (a.eval x) with
    | nil => rw [hx'] at e'; simp at e'
    | cons p ps => rw [hx'] at e' hn; simp at e'; subst e'; simp at hn)
  have hFlt : ∀ q ∈ F', q < w.heap.size := repRows_lt _ _ _ hr1
  have hSlt : ∀ q ∈ sF, q < w.heap.size := repRows_lt _ _ _ srep
  have hFx : ∀ q ∈ F', q ∉ hd (a.eval x) := fun q hq hqx => by
    obtain ⟨j, hj, hqj⟩ := hr5 q hqx
    exact hr7 j (hr4 j hj) q hq hqj
  have hSx : ∀ q ∈ sF, q ∉ hd (a.eval x) := fun q hq hqx => by
    obtain ⟨j, hj, hqj⟩ := hr5 q hqx
    exact simm q hq j (hr4 j hj) (fun hJ => hnd3 j hj j hJ rfl) hqj
  have hrows : repRows w' (b.2.1 ++ rows) (css ++ scss) (F' ++ sF) :=
    repRows_append (repRows_keep _ _ _ hr1 (fun q hq => hsame q (hFlt q hq) (hFx q hq))) (repRows_keep _ _ _ srep (fun q hq => hsame q (hSlt q hq) (hSx q hq)))
  have hlens : ∀ cs ∈ css ++ scss, cs.length = te.size := fun cs hcs => by
    rcases List.mem_append.1 hcs with h | h
    · exact hr2 cs h
    · exact slen cs h
  have hrowOwn : RowOwn w' v' (b.2.1 ++ rows).length te.size (css ++ scss).flatten := by
    rw [List.length_append, List.flatten_append]
    exact hown'
  have hv'cell : ∀ q ∈ hd v', ∃ arr e, w'.heap[q]? = some (.cells arr e (0, 0)) := fun q hq => by
    rcases hown'.2 with ⟨B, hB, _⟩ | ⟨g, o, cap, cur, el, hv, hcap, hg, _⟩
    · rw [hB] at hq; cases B <;> simp [hd] at hq
    · rw [hv] at hq
      cases cap with
      | zero => omega
      | succ cap => simp [hd] at hq; subst hq; exact ⟨_, _, hg⟩
  have hv'from : ∀ q ∈ hd v', q ∈ hd (a.eval x) ∨ q = w.heap.size := fun q hq => by
    rcases hwhere with h | h
    · exact .inl (by rw [← h]; exact hq)
    · rw [h.1] at hq; exact .inr (by simpa using hq)
  have hnA : ¬ G.A σ.next := fun h => Nat.lt_irrefl _ (hfr _ h)
  have hne : ∀ j, Lv σ.objs G j → j ≠ σ.next := fun j hj e' => hnA (e' ▸ hj.1)
  have hS : ∀ j ∈ b.2.2.2 ++ J, Lv σ.objs G j := fun j hj => by
    rcases List.mem_append.1 hj with h | h
    · exact hr4 j h
    · exact slive j h
  have holdcell : ∀ q, q < w.heap.size → q ∉ hd (a.eval x) → (∃ j, Lv σ.objs G j ∧ q ∈ G.Φ j) → ∃ arr e, w'.heap[q]? = some (.cells arr e (0, 0)) := fun q hq hn ⟨j, hj, hqj⟩ => by
    obtain ⟨_, arr, e', hh⟩ := hM.lo j hj q hqj
    exact ⟨arr, e', by rw [hsame q hq hn]; exact hh⟩
  obtain ⟨hM', hp⟩ := hM.move (O' := (σ.next, .row own true te.size (b.2.1 ++ rows)) :: dels σ.objs (b.2.2.2 ++ J)) (w' := w') σ.next v' (hd v' ++ (if own then F' ++ sF else [])) (b.2.2.2 ++ J)
    (fun j hj hn => by rw [get_cons_other _ _ _ _ hj, (get_dels _ _ _).2 hn]) (fun j hj hn => by rw [get_cons_other _ _ _ _ hj, (get_dels _ _ _).1 hn]) (fun h => absurd h hnA)
    hgrow.os hgrow.tape hgrow.output hgrow.size
    (fun q hq hn => hsame q hq (fun hqx => by
      obtain ⟨j, hj, hqj⟩ := hr5 q hqx
      exact hn j (hr4 j hj) (.inl (by simp [hj])) hqj))
    (by
      have hv1 : (hd v').Nodup := by
        rcases hown'.2 with ⟨B, hB, _⟩ | ⟨g, o, cap, cur, el, hv, _⟩
        · rw [hB]; cases B <;> simp [hd]
        · rw [hv]; cases cap <;> simp [hd]
      cases hown_ : own with
      | false => simpa using hv1
      | true =>
        simp only [if_true]
        obtain ⟨h1, h2⟩ := hr6 (hown hown_)
        obtain ⟨h3, h4⟩ := sowns hown_
        obtain ⟨h5, h6, h7⟩ := List.nodup_append.1 h1
        refine List.nodup_append.2 ⟨hv1, List.nodup_append.2 ⟨h6, h3, fun q hq q' hq' e' => ?_⟩, fun q hq q' hq' e' => ?_⟩
        · subst e'
          obtain ⟨j, hj, hqj⟩ := h2 q hq
          obtain ⟨j', hj', hqj'⟩ := h4 q hq'
          exact hM.disj j j' (hr4 j hj) (slive j' hj') (hnd3 j hj j' hj') q hqj hqj'
        · subst e'
          rcases hv'from q hq with h | h
          · rcases List.mem_append.1 hq' with hq' | hq'
            · exact h7 q h q hq' rfl
            · exact hSx q hq' h
          · rcases List.mem_append.1 hq' with hq' | hq'
            · have := hFlt q hq'; omega
            · have := hSlt q hq'; omega)
    (fun q hq => by
      rcases List.mem_append.1 hq with hq | hq
      · refine ⟨?_, hv'cell q hq⟩
        rcases hv'from q hq with h | h
        · obtain ⟨j, hj, hqj⟩ := hr5 q h
          exact .inr ⟨j, hr4 j hj, .inl (by simp [hj]), hM.hds j (hr4 j hj) q hqj⟩
        · exact .inl (by omega)
      · cases hown_ : own with
        | false => simp [hown_] at hq
        | true =>
          simp only [hown_, if_true] at hq
          rcases List.mem_append.1 hq with hq | hq
          · obtain ⟨j, hj, hqj⟩ := (hr6 (hown hown_)).2 q hq
            exact ⟨.inr ⟨j, hr4 j hj, .inl (by simp [hj]), hqj⟩, holdcell q (hFlt q hq) (hFx q hq) ⟨j, hr4 j hj, hqj⟩⟩
          · obtain ⟨j, hj, hqj⟩ := (sowns hown_).2 q hq
            exact ⟨.inr ⟨j, slive j hj, .inl (by simp [hj]), hqj⟩, holdcell q (hSlt q hq) (hSx q hq) ⟨j, slive j hj, hqj⟩⟩)
    (fun q hq => by
      refine ⟨by simp [hq], ?_⟩
      rcases hv'from q hq with h | h
      · obtain ⟨j, hj, hqj⟩ := hr5 q h
        exact .inr ⟨j, hr4 j hj, hqj⟩
      · exact .inl (by omega))
    (fun o ho p => by
      rw [get_cons_same] at ho
      injection ho with ho
      subst ho
      refine ⟨_, _, hrows, hlens, ?_, ?_⟩
      · simp only [if_true, Gh.set]; exact ⟨hrowOwn, trivial⟩
      · cases hown_ : own with
        | true => simp only [if_true, Gh.set]
        | false =>
          simp only [Bool.false_eq_true, if_false, Gh.set, if_true, List.append_nil, true_and]
          intro j hj q hq hqj
          have hqlt : q < w.heap.size := by
            rcases List.mem_append.1 hq with h | h
            · exact hFlt q h
            · exact hSlt q h
          by_cases ej : j = σ.next
          · subst ej
            have hqv : q ∈ hd v' := by simpa using hqj
            rcases hv'from q hqv with h | h
            · rcases List.mem_append.1 hq with h2 | h2
              · exact hFx q h2 h
              · exact hSx q h2 h
            · omega
          · obtain ⟨ha, o', ho'⟩ := hj
            have ha' : G.A j := by
              rcases ha with h | h
              · exact h
              · exact absurd h ej
            rw [get_cons_other _ _ _ _ ej] at ho'
            by_cases hjS : j ∈ b.2.2.2 ++ J
            · rw [(get_dels _ _ _).1 hjS] at ho'; cases ho'
            · rw [(get_dels _ _ _).2 hjS] at ho'
              have hqj' : q ∈ G.h j := by simpa [ej] using hqj
              rcases List.mem_append.1 hq with h2 | h2
              · exact hr7 j ⟨ha', o', ho'⟩ q h2 hqj'
              · exact simm q h2 j ⟨ha', o', ho'⟩ (fun h => hjS (by simp [h])) hqj')
  refine wp_value (w' := w') (v := v') ?_ (hK _ v' w' hM' hp ?_ (fun j hj => ?_) (fun j hj q hq => ?_))
  · have hrun' := hrun
    rw [← hu] at hrun'
    simp only [execOp, resolve, invoke, builtin, Sem.run_bind, Sem.run_pure, Result.andThen_ok, List.map_toArray, List.map_cons, List.map_nil]
    rw [hrun']
    rfl
  · simp only [AV.rep]
    exact ⟨.inr rfl, by simp [Gh.set], hrowOwn.one⟩
  · rcases hj with hj | hj
    · have := hfr j hj; simp only; omega
    · subst hj; simp
  · have hlj := slive j hj
    have hqlt : q < w.heap.size := by obtain ⟨_, arr, e', hh⟩ := hM.lo j hlj q hq; exact (Array.getElem?_eq_some_iff.1 hh).1
    have hqx : q ∉ hd (a.eval x) := fun h => by
      obtain ⟨k, hk, hqk⟩ := hr5 q h
      exact hM.disj j k hlj (hr4 k hk) (fun e' => hnd3 k hk j hj e'.symm) q hq (hM.hds k (hr4 k hk) q hqk)
    refine ⟨hsame q hqlt hqx, fun i hi hqi => ?_⟩
    by_cases ei : i = σ.next
    · subst ei
      have hqv : q ∈ hd v' := by simpa [Gh.set] using hqi
      rcases hv'from q hqv with h | h
      · exact hqx h
      · omega
    · obtain ⟨ha, o', ho'⟩ := hi
      have ha' : G.A i := by
        rcases ha with h | h
        · exact h
        · exact absurd h ei
      rw [get_cons_other _ _ _ _ ei] at ho'
      by_cases hiS : i ∈ b.2.2.2 ++ J
      · rw [(get_dels _ _ _).1 hiS] at ho'; cases ho'
      · rw [(get_dels _ _ _).2 hiS] at ho'
        have hqi' : q ∈ G.h i := by simpa [Gh.set, ei] using hqi
        exact hM.disj j i hlj ⟨ha', o', ho'⟩ (fun e' => hiS (by subst e'; simp [hj])) q hq (hM.hds i ⟨ha', o', ho'⟩ q hqi')

/-- Rows that have moved, still seen. -/
theorem Mem.vw {O : List (Nat × Ob)} {G : Gh} {w : World} {w0 : Base} (hM : Mem w0 O G w) {id : Nat} {rows : List (List T)} {F : List Nat} (hA : G.A id) (hO : get O id = none) (hr : (T.lst rows).rep w (G.φ id) F) (him : Imm O G F) :
    ∃ G', (∀ j, G'.A j ↔ G.A j) ∧ Mem w0 ((id, .vw rows) :: O) G' w ∧ Pres O G w ((id, .vw rows) :: O) G' w := by
  let G' : Gh := ⟨G.A, G.φ, fun j => if j = id then [] else G.Φ j, fun j => if j = id then [] else G.h j, G.b, G.pin⟩
  have hne : ∀ j, Lv O G j → j ≠ id := fun j hj e => by subst e; obtain ⟨o, ho⟩ := hj.2; rw [hO] at ho; cases ho
  refine ⟨G', fun j => Iff.rfl, Mem.step hM (Lv O G) (fun j => j = id) (fun j h => ⟨h, rfl⟩) ⟨rfl, rfl⟩ (fun j h => ⟨h, get_cons_other _ _ _ _ (hne j h), by simp [G', hne j h]⟩)
    (fun j h => ?_) rfl rfl rfl (Nat.le_refl _) (fun b _ _ => rfl) (fun j hx => ?_) (fun i j hi hj hn => absurd (hi.trans hj.symm) hn) (fun j hx b hb => ?_) (fun j hx b hb => ?_) (fun j o hx _ hg p => ?_)⟩
  · by_cases e : j = id
    · exact .inr e
    · obtain ⟨ha, o, ho⟩ := h
      rw [get_cons_other _ _ _ _ e] at ho
      exact .inl ⟨ha, o, ho⟩
  · subst hx; simp [G']
  · subst hx; simp [G'] at hb
  · subst hx; simp [G'] at hb
  · subst hx
    rw [get_cons_same] at hg
    injection hg with hg
    subst hg
    exact ⟨⟨F, hr, him.pres (T.rep_lt _ _ F hr) p⟩, by simp [G'], by simp [G']⟩
theorem GoesX.vw {o : Oper} {σ' : St} {J : List Nat} {av : AV} (h : GoesX P vl o σ J σ' av) {k : Nat} {app : Bool} {sz : Nat} {rows : List (List T)} (hk : k ∈ J) (hg : get σ.objs k = some (.row true app sz rows)) (hg' : get σ'.objs k = none)
    (hA : ∀ (w0 : Base) G w a, Mem w0 σ.objs G w → OpsRep vl o.op σ.objs G w a → G.A k) : GoesE P vl o σ ⟨σ'.env, (k, .vw rows) :: σ'.objs, σ'.next⟩ av := fun w0 G w a Kc Q hM hops hfr hK => by
  refine h w0 G w a Kc Q hM hops hfr (fun G' v w' h1 h2 h3 h4 h5 => ?_)
  have hak := hA w0 G w a hM hops
  have hlv : Lv σ.objs G k := ⟨hak, _, hg⟩
  have hφ := (h2.A k hak).2
  obtain ⟨css, F', r1, r2, r3, r4⟩ := hM.obs k _ hak hg
  simp only [if_true] at r4
  obtain ⟨_, _, _, _, hweak0, _⟩ := hM.row hak hg
  have hT : ∃ F, (T.lst rows).rep w (G.φ k) F ∧ ∀ q ∈ F, q ∈ G.Φ k := by
    have hweak : RowWeak w (G.φ k) rows.length sz css := by
      cases app with
      | true => simp only [if_true] at r3; exact r3.1.weak r2
      | false => simp only [Bool.false_eq_true, if_false] at r3; exact r3.1
    cases rows with
    | nil =>
      obtain ⟨A, c, e1, e2, _⟩ := hweak
      exact ⟨[], by simp only [T.rep]; exact ⟨A, c, e1, e2, .inl ⟨trivial, trivial⟩⟩, by simp⟩
    | cons r rs =>
      obtain ⟨F, e1, e2⟩ := hweak.rep r1 r2
      have hhd : G.h k = hd (G.φ k) := by
        cases app with
        | true => simp only [if_true] at r3; exact r3.2
        | false =>
          simp only [Bool.false_eq_true, if_false] at r3
          rcases r3.2 with q5 | ⟨q5, _⟩
          · exact q5
          · cases q5
      refine ⟨F, e1, fun q hq => ?_⟩
      rw [r4, hhd]
      rcases e2 with e2 | e2
      · rw [← e2]; exact hq
      · rw [e2] at hq; cases hq
  obtain ⟨F, hT1, hT2⟩ := hT
  obtain ⟨G2, hG2, hM2, hp2⟩ := h1.vw (id := k) (rows := rows) (F := F) (h2.A k hak).1 hg' (by rw [hφ]; exact T.rep_keep _ _ F hT1 (fun q hq => (h5 k hk q (hT2 q hq)).1)) (fun i hi q hq => (h5 k hk q (hT2 q hq)).2 i hi)
  exact hK G2 v w' hM2 (h2.trans hp2) (av.rep_pres hp2 v h3) (fun j hj => h4 j ((hG2 j).1 hj))

/-- What a slice value that is read shows. -/
theorem src_of_T {O : List (Nat × Ob)} {G : Gh} {w : World} {u : Value} {rows : List (List T)} {F : List Nat} {sz : Nat} {sc : Bool} (h : (T.lst rows).rep w u F) (him : Imm O G F) (hl : ∀ r ∈ rows, r.length = sz) (hsc : sc = true → ∀ r ∈ rows, ∀ x ∈ r, isScal x = true) :
    Nonempty (Src O G w u rows sz [] sc) := by
  simp only [T.rep] at h
  obtain ⟨A, c, h1, h2, h3⟩ := h
  rcases h3 with ⟨rfl, rfl⟩ | ⟨ad, css, F', sz', hne, rfl, hlt, rfl, hr, hg⟩
  · exact ⟨⟨[], [], by simp [repRows], by simp, ⟨A, c, h1, fun h => absurd h (by simp)⟩, by simp, fun _ => by simp, by simp⟩⟩
  · have hlen := repRows_row_len hr hl
    refine ⟨⟨css, F', hr, hlen, ⟨_, c, h1, fun _ => ⟨ad, rfl, fun i cs hi j v hv => ?_⟩⟩, by simp, fun ho => ?_, fun b hb j hj _ => him j hj b (by simp [hb])⟩⟩
    · have := hg i cs hi
      have e : sz' = sz := by rw [← this.1]; exact hlen cs (List.mem_of_getElem? hi)
      rw [← e]
      exact this.2 j v hv
    · rw [scalss_none (hsc ho) hr]; simp
theorem src_of_row {O : List (Nat × Ob)} {G : Gh} {w : World} {w0 : Base} (hM : Mem w0 O G w) {id : Nat} {o app : Bool} {sz : Nat} {rows : List (List T)} (ha : G.A id) (hg : get O id = some (.row o app sz rows)) {sc : Bool} (hsc : sc = true → ∀ r ∈ rows, ∀ x ∈ r, isScal x = true) :
    Nonempty (Src O G w (G.φ id) rows sz [] sc) := by
  obtain ⟨css, F', h1, h2, h3, h4⟩ := hM.row ha hg
  obtain ⟨A, c, h5, h6, h7⟩ := h3
  refine ⟨⟨css, F', h1, h2, ⟨A, c, h5, fun h => ?_⟩, by simp, fun ho => ?_, fun b hb j hj _ => h4 j hj b hb⟩⟩
  · obtain ⟨ad, h8, _, h9⟩ := h7 h
    exact ⟨ad, h8, h9⟩
  · rw [scalss_none (hsc ho) h1]; simp

theorem sound_append (hE : TOk P E) (hw : σ.wf) {args : Array Operand} {argTypes : Array TypeId} (h : opE E vl (.call { callee := .builtin .append, args, argTypes }) σ K) :
    SoundE P vl ⟨dst, .call { callee := .builtin .append, args, argTypes }, type, pos, after, guard⟩ σ K := by
  obtain ⟨args⟩ := args
  obtain ⟨argTypes⟩ := argTypes
  simp only [opE] at h
  split at h
  · rename_i x y t t'
    obtain ⟨rfl, h⟩ := h
    have h' := need_some h; clear h
    obtain ⟨ti, e, h⟩ := h'
    generalize hk : ti.k = k0 at h
    cases k0 <;> try exact h.elim
    rename_i el
    have h' := need_some h; clear h
    obtain ⟨te, ee, h⟩ := h'
    have h' := need_some h; clear h
    obtain ⟨vx, evx, h⟩ := h'
    have h' := need_some h; clear h
    obtain ⟨vy, evy, h⟩ := h'
    have h' := need_some h; clear h
    obtain ⟨b, eb, hbsz, h⟩ := h'
    have hy : y ∈ (Op.call { callee := .builtin .append, args := ⟨[x, y]⟩, argTypes := ⟨[t, t]⟩ }).operands := by simp [Op.operands, Call.operands]
    have hbnd : b.2.2.2.Nodup := by
      unfold baseOf at eb
      split at eb
      · injection eb with eb; subst eb; simp
      · injection eb with eb; subst eb; simp
      · split at eb
        · injection eb with eb; subst eb; simp
        · cases eb
      · cases eb
    have hwf : ∀ (o : Ob) (S : List Nat), St.wf ⟨σ.env, (σ.next, o) :: dels σ.objs S, σ.next + 1⟩ := by
      intro o S id ob hob
      simp only at hob ⊢
      by_cases e : id = σ.next
      · omega
      · rw [get_cons_other _ _ _ _ e] at hob
        by_cases hs : id ∈ S
        · rw [(get_dels _ _ _).1 hs] at hob; cases hob
        · rw [(get_dels _ _ _).2 hs] at hob
          have := hw id ob hob
          omega
    split at h
    · rename_i j
      have h' := need_some h; clear h
      obtain ⟨ob, eo, h⟩ := h'
      split at h
      · rename_i sz crows
        rcases h with h | h
        · skip
          have h' := need_some h; clear h
          obtain ⟨tm, etm, ⟨hnd, hsz⟩, hbd, h⟩ := h'
          subst hsz
          have hnd' := nodupB_iff hnd
          have hgo : GoesX P vl ⟨dst, .call { callee := .builtin .append, args := ⟨[x, y]⟩, argTypes := ⟨[t, t]⟩ }, type, pos, after, guard⟩ σ (j :: tm.2) ⟨σ.env, (σ.next, .row b.1 true te.size (b.2.1 ++ tm.1)) :: dels σ.objs (b.2.2.2 ++ j :: tm.2), σ.next + 1⟩ (.c (.ref σ.next)) := by
           refine append_goes (J := j :: tm.2) (own := b.1) hE e hk ee evx eb hbsz (fun h => h) hnd' hbd hw (fun w0 G w a hM hops => ?_)
           obtain ⟨h1, h2, _⟩ := hops y hy _ evy
           obtain ⟨css, h3, h4, h5, h6, _⟩ := hM.obs j _ h1 eo
           have hlv : Lv σ.objs G j := ⟨h1, _, eo⟩
           obtain ⟨_, hnd2, _⟩ := List.nodup_append.1 hnd'
           obtain ⟨hj, htm⟩ := List.nodup_cons.1 hnd2
           obtain ⟨F, m1, m2, m3, m4⟩ := moveCss_rep hM etm h3 htm
           obtain ⟨A, c, h7, h8, h9⟩ := h5.weak h4
           rw [h2]
           refine ⟨⟨css, F, m1, h4, ⟨A, c, by rw [moveCss_length etm]; exact h7, fun hp => ?_⟩, fun i hi => ?_, fun ho => ⟨(m3 ho).1, fun q hq => ?_⟩, fun q hq k hk hn => m4 q hq k hk (fun h => hn (by simp [h]))⟩⟩
           · rw [moveCss_length etm] at hp
             obtain ⟨ad, h10, _, h11⟩ := h9 hp
             exact ⟨ad, h10, h11⟩
           · rcases List.mem_cons.1 hi with rfl | hi
             · exact hlv
             · exact m2 i hi
           · obtain ⟨i, hi, hqi⟩ := (m3 ho).2 q hq
             exact ⟨i, by simp [hi], hqi⟩
          rcases h with h | h
          · exact ⟨_, _, h, rfl, Nat.le_succ _, hwf _ _, hgo.goes⟩
          · unfold VW at h
            split at h
            case h_2 => exact h.elim
            rename_i k etm2
            have h' := need_some h; clear h
            obtain ⟨ob, eok, h⟩ := h'
            split at h
            case h_2 => exact h.elim
            rename_i app sz' rows
            have hkJ : k ∈ j :: tm.2 := by rw [etm2]; simp
            have hkn : k ≠ σ.next := fun e' => by have := hw k _ eok; omega
            refine ⟨_, _, h, rfl, Nat.le_succ _, ?_, hgo.vw hkJ eok (by show get ((σ.next, _) :: dels σ.objs (b.2.2.2 ++ j :: tm.2)) k = none; rw [get_cons_other _ _ _ _ hkn, (get_dels _ _ _).1 (by rw [List.mem_append]; exact .inr hkJ)]) (fun w0 G w a hM hops => ?_)⟩
            · intro id ob hob
              by_cases ei : id = k
              · subst ei; have := hw id _ eok; show id < σ.next + 1; omega
              · exact hwf _ _ id ob (by rw [← hob]; exact (get_cons_other _ _ _ _ ei).symm)
            · obtain ⟨h1, h2, _⟩ := hops y hy _ evy
              obtain ⟨css, h3, h4, h5, h6, _⟩ := hM.obs j _ h1 eo
              obtain ⟨_, hnd2, _⟩ := List.nodup_append.1 hnd'
              obtain ⟨F, m1, m2, m3, m4⟩ := moveCss_rep hM etm h3 (List.nodup_cons.1 hnd2).2
              exact (m2 k (by rw [etm2]; simp)).1
        · unfold NO at h
          have h' := need_some h; clear h
          obtain ⟨tm, etm, ⟨hnd, hsz⟩, hbd, h⟩ := h'
          subst hsz
          have hnd' := nodupB_iff hnd
          refine ⟨_, _, h, rfl, Nat.le_succ _, hwf _ _, (append_goes (J := j :: tm.2) (own := false) hE e hk ee evx eb hbsz (fun h => by cases h) hnd' hbd hw (fun w0 G w a hM hops => ?_)).goes⟩
          obtain ⟨h1, h2, _⟩ := hops y hy _ evy
          obtain ⟨css, h3, h4, h5, h6, _⟩ := hM.obs j _ h1 eo
          have hlv : Lv σ.objs G j := ⟨h1, _, eo⟩
          obtain ⟨_, hnd2, _⟩ := List.nodup_append.1 hnd'
          obtain ⟨hj, htm⟩ := List.nodup_cons.1 hnd2
          obtain ⟨F, m1, m2, m3, m4⟩ := moveCss_rep hM etm h3 htm
          obtain ⟨A, c, h7, h8, h9⟩ := h5.weak h4
          rw [h2]
          refine ⟨⟨css, F, m1, h4, ⟨A, c, by rw [moveCss_length etm]; exact h7, fun hp => ?_⟩, fun i hi => ?_, (fun ho => by cases ho), fun q hq k hk hn => m4 q hq k hk (fun h => hn (by simp [h]))⟩⟩
          · rw [moveCss_length etm] at hp
            obtain ⟨ad, h10, _, h11⟩ := h9 hp
            exact ⟨ad, h10, h11⟩
          · rcases List.mem_cons.1 hi with rfl | hi
            · exact hlv
            · exact m2 i hi
      · rename_i o app sz rows
        obtain ⟨sc, hsc, ⟨hni, hsz⟩, hbd, h⟩ := h
        subst hsz
        refine ⟨_, _, h, rfl, Nat.le_succ _, hwf _ _, ?_⟩
        have := append_goes (P := P) (dst := dst) (type := type) (pos := pos) (after := after) (guard := guard) (J := []) (own := b.1 && sc) (rows := rows) hE e hk ee (y := y) evx eb hbsz (fun h => (Bool.and_eq_true _ _ ▸ h : _ ∧ _).1) (by simpa using hbnd) hbd hw (fun w0 G w a hM hops => by
          obtain ⟨h1, h2, _⟩ := hops y hy _ evy
          rw [h2]
          exact src_of_row hM h1 eo (fun ho => hsc (Bool.and_eq_true _ _ ▸ ho : _ ∧ _).2))
        simpa using this.goes
      · exact h.elim
    · have h' := need_some h; clear h
      obtain ⟨rows, erows, sc, hsc, hlen, hbd, h⟩ := h'
      refine ⟨_, _, h, rfl, Nat.le_succ _, hwf _ _, ?_⟩
      have := append_goes (P := P) (dst := dst) (type := type) (pos := pos) (after := after) (guard := guard) (J := []) (own := b.1 && sc) (rows := rows) hE e hk ee (y := y) evx eb hbsz (fun h => (Bool.and_eq_true _ _ ▸ h : _ ∧ _).1) (by simpa using hbnd) hbd hw (fun w0 G w a hM hops => by
        have hr := hops y hy _ evy
        have hsc' : (b.1 && sc) = true → ∀ r ∈ rows, ∀ x ∈ r, isScal x = true := fun ho => hsc (Bool.and_eq_true _ _ ▸ ho : _ ∧ _).2
        unfold spread at erows
        split at erows
        · injection erows with erows
          subst erows
          have hA : a.eval y = .slice none 0 0 := hr
          exact ⟨⟨[], [], by simp [repRows], by simp, ⟨none, 0, hA, fun h => absurd h (by simp)⟩, by simp, fun _ => by simp, by simp⟩⟩
        · injection erows with erows
          subst erows
          obtain ⟨F, h1, h2⟩ := hr
          exact src_of_T h1 h2 hlen hsc'
        · exact (‹∀ (j : Nat), AV.c (C.ref _) = AV.c (C.ref j) → False› _ rfl).elim
        · rename_i id sz lo hi _
          split at erows
          · rename_i own app sz' rows' hg
            cases hb : Nat.beq sz sz' with
            | false => rw [hb] at erows; cases erows
            | true =>
              rw [hb] at erows
              injection erows with erows
              subst erows
              have := Nat.eq_of_beq_eq_true hb
              subst this
              obtain ⟨css, F', h3, h4, h5, h6⟩ := hM.view hr hg
              obtain ⟨A, c, h7, _, h8⟩ := h5
              exact ⟨⟨css, F', h3, fun cs hcs => (repRows_row_len h3 hlen) cs hcs, ⟨A, c, h7, fun hp => by
                obtain ⟨ad, h9, _, h10⟩ := h8 hp
                refine ⟨ad, h9, fun i cs hi j u hu => ?_⟩
                have e1 : sz = te.size := by rw [← h4 cs (List.mem_of_getElem? hi)]; exact (repRows_row_len h3 hlen) cs (List.mem_of_getElem? hi)
                rw [← e1]
                exact h10 i cs hi j u hu⟩, by simp, fun ho => by rw [scalss_none (hsc' ho) h3]; simp, fun b hb j hj _ => h6 j hj b hb⟩⟩
          · cases erows
        · cases erows)
      simpa using this.goes
  · exact h.elim

/-! ### An empty literal that the same region appends to: nothing is taken from anybody -/
def opF (E : Nat → Option TI) (vl : Operand → Option AV) (op : Op) (σ : St) (K : AV → St → Prop) : Prop :=
  match op with
  | .buildSlice t len parts => need (E t) fun ti => match ti.k with
    | .sl e => need (E e) fun _ => (len = 0 ∧ parts = #[]) ∧ K (.c .nil0) σ
    | _ => False
  | .call { callee := .builtin .append, args, argTypes } => match args.toList, argTypes.toList with
    | [x, y], [t, t'] => t = t' ∧ need (E t) fun ti => match ti.k with
      | .sl e => need (E e) fun te => need (vl x) fun
        | .c .nil0 => need (vl y) fun
          | .c (.t (.lst rows)) => ∃ sc : Bool, (sc = true → ∀ r ∈ rows, ∀ x ∈ r, isScal x = true) ∧ (∀ r ∈ rows, r.length = te.size) ∧
              (rows.length * te.bytes ≤ 140737488355328 ∧ rows.length ≤ 140737488355328) ∧ K (.c (.ref σ.next)) (σ.new (.row sc true te.size rows))
          | .c (.view id sz lo hi) => need (get σ.objs id) fun
            | .row _ _ sz' orows => ∃ sc : Bool, (sz = sz' ∧ sz = te.size) ∧ (sc = true → ∀ r ∈ (orows.take hi).drop lo, ∀ x ∈ r, isScal x = true) ∧ (∀ r ∈ (orows.take hi).drop lo, r.length = te.size) ∧
              (((orows.take hi).drop lo).length * te.bytes ≤ 140737488355328 ∧ ((orows.take hi).drop lo).length ≤ 140737488355328) ∧ K (.c (.ref σ.next)) (σ.new (.row sc true te.size ((orows.take hi).drop lo)))
            | _ => False
          | _ => False
        | _ => False
      | _ => False
    | _, _ => False
  | _ => False

theorem sound_buildEmpty (hE : TOk P E) (hw : σ.wf) {t len : Nat} {parts : Array (Nat × Operand)} (h : opF E vl (.buildSlice t len parts) σ K) : SoundB P vl ⟨dst, .buildSlice t len parts, type, pos, after, guard⟩ σ K := by
  simp only [opF] at h
  have h' := need_some h; clear h
  obtain ⟨ti, e, h⟩ := h'
  generalize hk : ti.k = k0 at h
  cases k0 <;> try exact h.elim
  rename_i el
  have h' := need_some h; clear h
  obtain ⟨te, ee, ⟨rfl, rfl⟩, h⟩ := h'
  obtain ⟨d, hd, _, hkk⟩ := (hE t ti e).desc
  rw [hk] at hkk
  simp only [TKok] at hkk
  subst hkk
  obtain ⟨i, z, hi, hs, hb, hz, hzc, hzs⟩ := (hE el te ee).info
  refine ⟨_, σ, h, σ.ext_refl, hw, ?_⟩
  intro w0 O G w a Kc Q hsub hM hops hfr hK
  have hrun : (execOp a.eval ⟨dst, .buildSlice t 0 #[], type, pos, after, guard⟩).run P w = .ok (.value (.slice (some ⟨w.heap.size, 0, none⟩) 0 0)) (w.alloc (.cells #[] el)) := by
    simp only [execOp, Instr.buildSlice, Sem.run_bind, run_underlying hd, Result.andThen_ok, sizeOf, typeInfo, run_program, hi, Sem.run_pure, hs]
    have em : Array.map (fun _ : Nat => (default : Value)) (Array.range 0) = #[] := by apply Array.ext'; simp
    simp [Instr.fill, newRow]
    rw [em]
  obtain ⟨hbl, _⟩ := newBlock w #[] el
  obtain ⟨hM', hp⟩ := hM.newL (w' := w.alloc (.cells #[] el)) σ.next [] (fun j h1 h2 => absurd h2 (by simp; omega)) hbl (by simp) (by simp) (by simp) (fun k o hk => by simp at hk)
  refine wp_value hrun (hK _ _ _ hM' hp ⟨_, rfl⟩ (fun j hj => ?_))
  rcases hj with hj | hj
  · exact .inl hj
  · simp at hj; omega

theorem sound_appendEmpty (hE : TOk P E) (hw : σ.wf) {args : Array Operand} {argTypes : Array TypeId} (h : opF E vl (.call { callee := .builtin .append, args, argTypes }) σ K) :
    SoundB P vl ⟨dst, .call { callee := .builtin .append, args, argTypes }, type, pos, after, guard⟩ σ K := by
  obtain ⟨args⟩ := args
  obtain ⟨argTypes⟩ := argTypes
  simp only [opF] at h
  split at h
  · rename_i x y t t'
    obtain ⟨rfl, h⟩ := h
    have h' := need_some h; clear h
    obtain ⟨ti, e, h⟩ := h'
    generalize hk : ti.k = k0 at h
    cases k0 <;> try exact h.elim
    rename_i el
    have h' := need_some h; clear h
    obtain ⟨te, ee, h⟩ := h'
    have h' := need_some h; clear h
    obtain ⟨vx, evx, h⟩ := h'
    split at h
    · have key : ∀ (rows : List (List T)) (sc : Bool), (rows.length * te.bytes ≤ 140737488355328 ∧ rows.length ≤ 140737488355328) → K (.c (.ref σ.next)) (σ.new (.row sc true te.size rows)) →
          (∀ (w0 : Base) O G w a, (∀ id ob, get σ.objs id = some ob → get O id = some ob) → Mem w0 O G w → OpsRep vl (Op.call { callee := .builtin .append, args := ⟨[x, y]⟩, argTypes := ⟨[t, t]⟩ }) O G w a → Nonempty (Src O G w (a.eval y) rows te.size [] sc)) →
          SoundB P vl ⟨dst, .call { callee := .builtin .append, args := ⟨[x, y]⟩, argTypes := ⟨[t, t]⟩ }, type, pos, after, guard⟩ σ K := by
        intro rows sc hbd h hsrc
        refine ⟨_, _, h, σ.ext_new _, St.wf_new σ hw _, ?_⟩
        intro w0 O G w a Kc Q hsub hM hops hfr hK
        have hx : x ∈ (Op.call { callee := .builtin .append, args := ⟨[x, y]⟩, argTypes := ⟨[t, t]⟩ }).operands := by simp [Op.operands, Call.operands]
        obtain ⟨B, hB⟩ := hops x hx _ evx
        obtain ⟨⟨scss, sF, srep, slen, sval, _, sowns, simm⟩⟩ := hsrc w0 O G w a (fun id ob ho => hsub id ob ((get_cons_other _ _ _ _ (by have := hw id ob ho; omega)).trans ho)) hM hops
        obtain ⟨A, c, hu, hcells⟩ := sval
        obtain ⟨d, hd_, _, hkk⟩ := (hE t ti e).desc
        rw [hk] at hkk
        simp only [TKok] at hkk
        subst hkk
        obtain ⟨i, z, hi, hs, hbs, hz, hzc, hzs⟩ := (hE el te ee).info
        have hnl : scss.flatten.length = rows.length * i.size := by rw [flat_length slen, repRows_length srep, hs]
        obtain ⟨v', w', hrun, hown', hgrow, hwhere⟩ := run_append (P := P) w t type el i z hd_ hi hz (by rw [hzs, hs]) (.slice B 0 0) 0 [] ⟨by simp, .inl ⟨B, rfl, rfl⟩⟩ A rows.length c scss.flatten hnl
          (fun hm => by
            obtain ⟨ad, hA, hg⟩ := hcells hm
            exact ⟨ad, hA, grid_flat slen hg⟩) (repRows_one srep) (by rw [hbs, Nat.zero_add]; exact hbd.1) (by rw [Nat.zero_add]; exact hbd.2)
        rw [Nat.zero_add, List.nil_append, hs] at hown'
        have hd0 : hd (.slice B 0 0) = [] := by cases B <;> rfl
        rw [hd0] at hgrow hwhere
        have hbl : Below w.heap.size w w' := ⟨hgrow.os, hgrow.tape, hgrow.output, hgrow.size, fun k hk => hgrow.block k hk (by simp)⟩
        have hfresh : ∀ q ∈ hd v', w.heap.size ≤ q ∧ ∃ arr e, w'.heap[q]? = some (.cells arr e (0, 0)) := fun q hq => by
          refine ⟨?_, ?_⟩
          · rcases hwhere with h | ⟨h, _⟩
            · rw [h] at hq; cases hq
            · rw [h] at hq; simp at hq; omega
          · rcases hown'.2 with ⟨A', h2, _⟩ | ⟨g, o, cap, cur, e', h2, hp, hh, _⟩
            · rw [h2] at hq; cases A' <;> simp [hd] at hq
            · subst h2
              cases cap with
              | zero => omega
              | succ cap => simp only [hd, List.mem_singleton] at hq; subst hq; exact ⟨_, _, hh⟩
        have hnd : (hd v').Nodup := by
          rcases hwhere with h | ⟨h, _⟩ <;> rw [h] <;> simp
        have hOn : get O σ.next = some (.row sc true te.size rows) := hsub _ _ (σ.new_get _)
        obtain ⟨hM', hp⟩ := hM.newL (w' := w') σ.next [(v', hd v')] (fun j h1 h2 => hfr j h1 (by simpa [St.new] using h2)) hbl (by simpa using hnd) (fun p hp b hb => by simp at hp; subst hp; exact hfresh b hb) (fun p hp b hb => by simp at hp; subst hp; exact hb)
          (fun k o hk ho p => by
            have hk0 : k = 0 := by simpa using hk
            subst hk0
            have hn := Gh.addL_new (G := G) (n := σ.next) (l := [(v', hd v')]) (k := 0) (by simp)
            rw [Nat.add_zero] at ho hn ⊢
            rw [hOn] at ho
            injection ho with ho
            subst ho
            have hlow : ∀ b ∈ sF, b < w.heap.size := repRows_lt rows scss sF srep
            refine ⟨scss, sF, repRows_keep rows scss sF srep (fun b hb => hbl.block b (hlow b hb)), slen, ?_, ?_⟩
            · simp only [if_true]
              rw [hn.1, hn.2.2]
              exact ⟨hown', rfl⟩
            · cases sc with
              | true =>
                have hF : sF = [] := by
                  cases hsF : sF with
                  | nil => rfl
                  | cons b r =>
                    obtain ⟨j, hj, _⟩ := (sowns rfl).2 b (by rw [hsF]; simp)
                    simp at hj
                simp only [if_true]
                rw [hn.2.1, hn.2.2, hF]
                simp
              | false =>
                simp only [Bool.false_eq_true, if_false]
                refine ⟨by rw [hn.2.1, hn.2.2]; rfl, ?_⟩
                intro j hj b hb hbj
                rcases p.hds j hj b hbj with ⟨j', hj', hb'⟩ | hge
                · exact simm b hb j' hj' (by simp) hb'
                · have := hlow b hb; omega)
        have hn := Gh.addL_new (G := G) (n := σ.next) (l := [(v', hd v')]) (k := 0) (by simp)
        rw [Nat.add_zero] at hn
        refine wp_value (w' := w') (v := v') ?_ (hK _ v' w' hM' hp ?_ (fun j hj => ?_))
        · simp only [execOp, resolve, invoke, builtin, Sem.run_bind, Sem.run_pure, Result.andThen_ok, List.map_toArray, List.map_cons, List.map_nil]
          rw [hB, hu, hrun]
          rfl
        · simp only [AV.rep]
          exact ⟨.inr ⟨by omega, by simp⟩, hn.1.symm, hown'.one⟩
        · rcases hj with hj | hj
          · exact .inl hj
          · exact .inr ⟨hj.1, by simpa [St.new] using hj.2⟩
      have hy : y ∈ (Op.call { callee := .builtin .append, args := ⟨[x, y]⟩, argTypes := ⟨[t, t]⟩ }).operands := by simp [Op.operands, Call.operands]
      obtain ⟨vy, evy, h⟩ := need_some h
      split at h
      · rename_i rows
        obtain ⟨sc, hsc, hlen, hbd, h⟩ := h
        exact key rows sc hbd h (fun w0 O G w a _ hM hops => by
          obtain ⟨F0, hr1, hr2⟩ := hops y hy _ evy
          exact src_of_T (O := O) (G := G) hr1 hr2 hlen hsc)
      · rename_i id sz lo hi
        obtain ⟨ob, eob, h⟩ := need_some h
        split at h
        · rename_i own app sz' orows
          obtain ⟨sc, ⟨rfl, rfl⟩, hsc, hlen, hbd, h⟩ := h
          exact key _ sc hbd h (fun w0 O G w a hsub hM hops => by
            have hr := hops y hy _ evy
            obtain ⟨css, F', h3, h4, h5, h6⟩ := hM.view hr (hsub _ _ eob)
            obtain ⟨A, c, h7, _, h8⟩ := h5
            exact ⟨⟨css, F', h3, fun cs hcs => (repRows_row_len h3 hlen) cs hcs, ⟨A, c, h7, fun hp => by
              obtain ⟨ad, h9, _, h10⟩ := h8 hp
              exact ⟨ad, h9, fun i cs hi j u hu => h10 i cs hi j u hu⟩⟩, by simp, fun ho => by rw [scalss_none (hsc ho) h3]; simp, fun b hb j hj _ => h6 j hj b hb⟩⟩)
        · exact h.elim
      · exact h.elim
    · exact h.elim
  · exact h.elim

theorem opF_sound (hE : TOk P E) (hw : σ.wf) {o : Oper} (h : opF E vl o.op σ K) : SoundB P vl o σ K := by
  obtain ⟨dst, op, type, pos, after, guard⟩ := o
  simp only at h
  cases op with
  | buildSlice t len parts => exact sound_buildEmpty hE hw h
  | call c =>
    obtain ⟨cal, args, argTypes⟩ := c
    cases cal with
    | value f => simp [opF] at h
    | builtin b => cases b <;> first | exact sound_appendEmpty hE hw h | (simp [opF] at h)
    | invoke r m => simp [opF] at h
  | _ => simp [opF] at h

/-- THE SOUNDNESS OF 'opE'. -/
theorem opE_sound (hE : TOk P E) (hw : σ.wf) {o : Oper} (h : opE E vl o.op σ K) : SoundE P vl o σ K := by
  obtain ⟨dst, op, type, pos, after, guard⟩ := o
  simp only at h
  cases op with
  | store t x v => exact sound_store hE hw h
  | call c =>
    obtain ⟨cal, args, argTypes⟩ := c
    cases cal with
    | value f => simp [opE] at h
    | builtin b => cases b <;> first | exact sound_append hE hw h | (simp [opE] at h)
    | invoke r m => simp [opE] at h
  | _ => simp [opE] at h
end
end Go.Vm
