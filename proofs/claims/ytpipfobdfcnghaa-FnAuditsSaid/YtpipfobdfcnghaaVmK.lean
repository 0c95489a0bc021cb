/-
  Soundness of 'opB': every operation that reads memory or makes new objects.
  Soundness of 'opB': loads, make, indexes, slices, len, calls of proved functions; all of them in one theorem.
  The operations that write: a store into a box or a row of the call's own, append. What moves, moves whole.
  Conditions: the table of types fits the program ('TOk').
-/
import Derived.Test.YtpipfobdfcnghaaVmH
import Derived.Laws.BytesString
namespace Go.Vm
open Go.RowKit

section
variable {P : Program} {E : Nat → Option TI} {vl : Operand → Option AV} {σ : St}

/-- What is claimed of each: the value and the state that the continuation got, and how a run goes. -/
def SoundB (P : Program) (vl : Operand → Option AV) (o : Oper) (σ : St) (K : AV → St → Prop) : Prop :=
  ∃ av σ', K av σ' ∧ σ.ext σ' ∧ σ'.wf ∧ GoesB P vl o σ σ' av

theorem SoundB.quiet {o : Oper} {K : AV → St → Prop} (hw : σ.wf) {av : AV} (h : K av σ)
    (hrun : ∀ (w0 : Base) O G w a, (∀ id ob, get σ.objs id = some ob → get O id = some ob) → Mem w0 O G w → OpsRep vl o.op O G w a → ∃ v, (execOp a.eval o).run P w = .ok (.value v) w ∧ av.rep O G w v) :
    SoundB P vl o σ K := ⟨av, σ, h, σ.ext_refl, hw, quiet_goes hrun⟩

theorem sound_alloc (hE : TOk P E) (hw : σ.wf) {dst : Option Tmp} {type : TypeId} {pos : String} {after : Array Edge} {guard : Option (Nat × Bool)} {t : Nat} {K : AV → St → Prop}
    (h : opB P E vl (.alloc t) σ K) : SoundB P vl ⟨dst, .alloc t, type, pos, after, guard⟩ σ K := by
  simp only [opB] at h
  obtain ⟨ti, e, h⟩ := need_some h
  refine ⟨_, _, h, σ.ext_new _, St.wf_new σ hw _, newBox_goes hw (fun O G w a _ => ?_)⟩
  obtain ⟨i, z, hi, hs, hb, hz, hzc, _⟩ := (hE t ti e).info
  refine ⟨ti.zero.map C.plain, t, plains_rep (hE t ti e).plain, ?_⟩
  simp [execOp, Instr.alloc, zeroValue, typeInfo, hi, hz, newVar, newRow, hzc]

theorem sound_box (hw : σ.wf) {dst : Option Tmp} {type : TypeId} {pos : String} {after : Array Edge} {guard : Option (Nat × Bool)} {t : Nat} {x : Operand} {K : AV → St → Prop}
    (h : opB P E vl (.box t x) σ K) : SoundB P vl ⟨dst, .box t x, type, pos, after, guard⟩ σ K := by
  simp only [opB] at h
  obtain ⟨v, e, h⟩ := need_some h
  obtain ⟨cs, e2, h⟩ := need_some h
  refine ⟨_, _, h, σ.ext_new _, St.wf_new σ hw _, newBox_goes hw (fun O G w a hr => ?_)⟩
  obtain ⟨vs, h1, h2⟩ := cellsOf_rep e2 (hr x (by simp [Op.operands]) v e)
  exact ⟨vs, t, h2, by simp [execOp, Instr.box, newVar, newRow, h1]⟩

theorem sound_build (hE : TOk P E) (hw : σ.wf) {dst : Option Tmp} {type : TypeId} {pos : String} {after : Array Edge} {guard : Option (Nat × Bool)} {t : Nat} {parts : Array (Nat × Operand)} {K : AV → St → Prop}
    (h : opB P E vl (.build t parts) σ K) : SoundB P vl ⟨dst, .build t parts, type, pos, after, guard⟩ σ K := by
  simp only [opB] at h
  obtain ⟨ti, e, h⟩ := need_some h
  generalize hk : ti.k = k0 at h
  cases k0 <;> try exact h.elim
  rename_i offs
  obtain ⟨cs, e2, h⟩ := need_some h
  refine SoundB.quiet hw h (fun w0 O G w a _ hM hr => ?_)
  obtain ⟨i, z, hi, hs, hb, hz, hzc, _⟩ := (hE t ti e).info
  obtain ⟨d, hd, _, hkk⟩ := (hE t ti e).desc
  rw [hk] at hkk
  obtain ⟨fs, rfl, hof, hss⟩ := hkk
  -- the places that the model reckons
  have hplaces : ∀ (l : List Field), (∀ f : Field, f ∈ l → ∃ i, P.info? f.type = some i ∧ i.size ≠ 0) → ∃ pl : List (Nat × Nat), (∀ w, (l.mapM (m := Sem) fun (f : Field) => do pure (f.offset, ← sizeOf f.type)).run P w = .ok pl w) ∧
      ∀ k : Nat, pl[k]? = (l[k]?).bind fun (f : Field) => (P.info? f.type).map fun i => (f.offset, i.size) := by
    intro l
    induction l with
    | nil => intro _; exact ⟨[], fun w => by simp, by simp⟩
    | cons f l ih =>
      intro hl
      obtain ⟨fi, hfi, _⟩ := hl f (by simp)
      obtain ⟨pl, h1, h2⟩ := ih (fun g hg => hl g (by simp [hg]))
      refine ⟨(f.offset, fi.size) :: pl, fun w => ?_, fun k => ?_⟩
      · have hsz : ∀ w, (sizeOf f.type).run P w = .ok fi.size w := fun w => by simp [sizeOf, typeInfo, hfi]
        simp only [List.mapM_cons, Sem.run_bind, hsz, Result.andThen_ok, Sem.run_pure, h1]
      · cases k with
        | zero => simp [hfi]
        | succ k => simpa using h2 k
  obtain ⟨pl, hpl1, hpl2⟩ := hplaces fs.toList hss
  have hfill := fillC_rep (O := O) (G := G) (w := w) hE (vl := vl) (a := a) (fun k => pl.toArray[k]?) (fun i off ty hi' ti' hti' => by
    rw [← hof, List.getElem?_map] at hi'
    cases hf : fs.toList[i]? with
    | none => rw [hf] at hi'; cases hi'
    | some f =>
      rw [hf] at hi'
      simp only [Option.map_some, Option.some.injEq, Prod.mk.injEq] at hi'
      obtain ⟨fi, hfi, _⟩ := hss f (List.mem_of_getElem? hf)
      obtain ⟨i2, z2, hi2, hs2, _⟩ := (hE ty ti' hti').info
      have : fi = i2 := by rw [hi'.2] at hfi; rw [hfi] at hi2; exact Option.some.inj hi2
      subst this
      simp [hpl2, hf, hi'.1, hfi, hs2]) e2 (fun p hp v hv => hr p.2 (by simp only [Op.operands]; rw [List.mem_toArray]; exact List.mem_map.2 ⟨p, hp, rfl⟩) v hv) (plains_rep (hE t ti e).plain)
  obtain ⟨vs, h1, h2⟩ := hfill
  refine ⟨.agg vs.toArray, ?_, by simp only [AV.rep]; exact ⟨vs, rfl, h2⟩⟩
  have hm : ∀ w, (fs.mapM (m := Sem) fun (f : Field) => do pure (f.offset, ← sizeOf f.type)).run P w = .ok pl.toArray w := fun w => by
    rw [Array.mapM_eq_mapM_toList, Sem.run_map, hpl1]
    rfl
  have hzc' : z.cells = (ti.zero.map C.plain).toArray := hzc
  simp only [execOp, Instr.build, Sem.run_bind, zeroValue, typeInfo, run_program, Result.andThen_ok, hi, hz, Sem.run_pure, run_underlying hd, hm, hzc', Array.toList_map]
  have e3 : (parts.toList.map fun p => (p.1, a.eval p.2)) = parts.toList.map (fun (x : Nat × Operand) => match x with | (i, x) => (i, a.eval x)) := List.map_congr_left (fun p _ => rfl)
  rw [← e3, h1]
  rfl

section
variable {dst : Option Tmp} {type : TypeId} {pos : String} {after : Array Edge} {guard : Option (Nat × Bool)} {K : AV → St → Prop}

theorem sound_buildSlice (hE : TOk P E) (hw : σ.wf) {t len : Nat} {parts : Array (Nat × Operand)}
    (h : opB P E vl (.buildSlice t len parts) σ K) : SoundB P vl ⟨dst, .buildSlice t len parts, type, pos, after, guard⟩ σ K := by
  simp only [opB] at h
  obtain ⟨ti, e, h⟩ := need_some h
  generalize hk : ti.k = k0 at h
  cases k0 <;> try exact h.elim
  rename_i el
  obtain ⟨te, ee, h⟩ := need_some h
  obtain ⟨rows, er, h⟩ := need_some h
  obtain ⟨⟨hlen, h24, h24b⟩, h⟩ := h
  obtain ⟨d, hd, _, hkk⟩ := (hE t ti e).desc
  rw [hk] at hkk
  simp only [TKok] at hkk
  subst hkk
  obtain ⟨i, z, hi, hs, hb, hz, hzc, hzs⟩ := (hE el te ee).info
  have run : ∀ (O : List (Nat × Ob)) (G : Gh) (w : World) (a : Act), OpsRep vl (Op.buildSlice t len parts) O G w a → ∃ css, repCss O G w rows css ∧ (∀ cs ∈ css, cs.length = te.size) ∧ css.length = len ∧
      (execOp a.eval ⟨dst, .buildSlice t len parts, type, pos, after, guard⟩).run P w = .ok (.value (.slice (some ⟨w.heap.size, 0, none⟩) len len)) (w.alloc (.cells css.flatten.toArray el)) := by
    intro O G w a hr
    obtain ⟨css, h1, h2, h3, h4, h5⟩ := rowsC_rep (O := O) (G := G) (w := w) (a := a) er (fun p hp v hv => hr p.2 (by simp only [Op.operands]; rw [List.mem_toArray]; exact List.mem_map.2 ⟨p, hp, rfl⟩) v hv)
    rw [hlen] at h3
    rw [← h3] at h4 h5
    have mapEq : (parts.map fun (x : Nat × Operand) => match x with | (i, x) => (i, a.eval x)).toList = parts.toList.map fun p => (p.1, a.eval p.2) := by
      rw [Array.toList_map]
    have fin : ∀ cells : Array Value, cells.size = len * te.size → Instr.fill (fun i => some (i * te.size, te.size)) cells (parts.toList.map fun p => (p.1, a.eval p.2)) = some css.flatten.toArray := by
      intro cells hc
      obtain ⟨cells', h6, h7⟩ := h5 cells (by rw [hc]; simp)
      rw [h6]
      congr 1
      apply Array.ext'
      rw [h7]
      simp
      omega
    refine ⟨css, h1, h2, h4, ?_⟩
    have h24' : ¬ (16777216 < len * te.size) := by omega
    by_cases h0 : len * te.size = 0
    · have hf := fin ((Array.range 0).map fun _ => default) (by simp [h0])
      simp only [execOp, Instr.buildSlice, Sem.run_bind, run_underlying hd, Result.andThen_ok, sizeOf, typeInfo, run_program, hi, Sem.run_pure, mapEq, hs]
      simp [h0, hf, newRow]
    · have hf := fin (((Array.range (len * te.size)).map (z.cells[· % z.cells.size]!))) (by simp)
      simp only [execOp, Instr.buildSlice, Sem.run_bind, run_underlying hd, Result.andThen_ok, sizeOf, typeInfo, run_program, hi, Sem.run_pure, mapEq, hs]
      simp [h0, h24', zeroValue, typeInfo, hi, hz, hf, newRow]
  have own : ∀ {w : World} {css : List (List Value)}, (∀ cs ∈ css, cs.length = te.size) → css.length = len → RowOwn (w.alloc (.cells css.flatten.toArray el)) (.slice (some ⟨w.heap.size, 0, none⟩) len len) rows.length te.size css.flatten := by
    intro w css h2 h4
    have hfl : css.flatten.length = len * te.size := by
      rw [← h4]
      clear h4
      induction css with
      | nil => simp
      | cons c cs ih => simp only [List.flatten_cons, List.length_append, List.length_cons, Nat.add_mul, Nat.one_mul]; rw [ih (fun x hx => h2 x (by simp [hx])), h2 c (by simp)]; omega
    rw [hlen]
    refine ⟨hfl, ?_⟩
    rcases Nat.eq_zero_or_pos len with h0 | h0
    · exact .inl ⟨some ⟨w.heap.size, 0, none⟩, by rw [h0], h0⟩
    · exact .inr ⟨w.heap.size, 0, len, _, el, rfl, h0, Go.heap_alloc_new w _, Nat.le_refl _, by simp only [maxLen]; omega, by simp only [List.size_toArray, Nat.zero_add]; exact hfl, List.take_of_length_le (by show css.flatten.length ≤ _; omega)⟩
  split at h
  · rename_i trows et
    refine ⟨_, _, h, σ.ext_new _, St.wf_new σ hw _, newRow_goes hw (fun w0 O G w a _ hM hr => ?_)⟩
    obtain ⟨css, h1, h2, h4, h5⟩ := run O G w a hr
    refine ⟨_, _, _, _, h5, fun G' hφ hΦ p => ?_⟩
    obtain ⟨h6, h7⟩ := scalss_rep et h1
    refine ⟨css, [], repRows_keep _ _ _ h6 (by simp), h2, ?_, ?_⟩
    · simp only [if_true]; rw [hφ, h7]; exact ⟨own h2 h4, hΦ.2⟩
    · simp only [if_true]; rw [hΦ.1, hΦ.2]; simp
  · refine ⟨_, _, h, σ.ext_new _, St.wf_new σ hw _, newRow_goes hw (fun w0 O G w a _ hM hr => ?_)⟩
    obtain ⟨css, h1, h2, h4, h5⟩ := run O G w a hr
    refine ⟨_, _, _, _, h5, fun G' hφ hΦ p => ?_⟩
    exact ⟨css, repCss_pres p _ _ h1, h2, by rw [hφ]; exact own h2 h4, by rw [hφ, hΦ.1], by rw [hφ, hΦ.2]⟩
end
end
end Go.Vm

namespace Go.Vm
open Go.RowKit

section
variable {P : Program} {E : Nat → Option TI} {vl : Operand → Option AV} {σ : St}
variable {dst : Option Tmp} {type : TypeId} {pos : String} {after : Array Edge} {guard : Option (Nat × Bool)} {K : AV → St → Prop}

theorem run_load_op {t : TypeId} {x : Operand} {a : Act} {w : World} {ad : Addr} {v : Value} (hx : a.eval x = .pointer (some ad)) (hr : (loadVar t ad).run P w = .ok v w) :
    (execOp a.eval ⟨dst, .load t x, type, pos, after, guard⟩).run P w = .ok (.value v) w := by
  simp [execOp, Instr.loadAt, Instr.sureAddr, hx, hr]

theorem sound_load (hE : TOk P E) (hw : σ.wf) {t : Nat} {x : Operand}
    (h : opB P E vl (.load t x) σ K) : SoundB P vl ⟨dst, .load t x, type, pos, after, guard⟩ σ K := by
  simp only [opB] at h
  have h' := need_some h; clear h
  obtain ⟨ti, e, h⟩ := h'
  have h' := need_some h; clear h
  obtain ⟨v, ev, h⟩ := h'
  have hx : x ∈ (Op.load t x).operands := by simp [Op.operands]
  split at h
  · rename_i id off
    have h' := need_some h; clear h
    obtain ⟨ob, eo, h⟩ := h'
    split at h
    · rename_i cs
      obtain ⟨av, hK, hr⟩ := loadC_sound (hE t ti e) h
      refine SoundB.quiet hw hK (fun w0 O G w a hsub hM hops => ?_)
      have hv := hops x hx _ ev
      simp only [AV.rep] at hv
      obtain ⟨h1, ad, h2, h3⟩ := hv
      obtain ⟨g, vs, el, h4, h5, h6, h7⟩ := hM.obs id _ h1 (hsub _ _ eo)
      rw [h2] at h4
      injection h4 with h4
      injection h4 with h4
      subst h4
      obtain ⟨u, h8, h9⟩ := hr O G w _ vs h6 (box_cells h5)
      exact ⟨u, run_load_op h3 h8, h9⟩
    · exact h.elim
  · rename_i id sz i off
    have h' := need_some h; clear h
    obtain ⟨ob, eo, h⟩ := h'
    split at h
    · rename_i own app sz' rows
      obtain ⟨rfl, cs, hcs, h⟩ := h
      obtain ⟨av, hK, hr⟩ := loadT_sound (hE t ti e) h
      refine SoundB.quiet hw hK (fun w0 O G w a hsub hM hops => ?_)
      have hv := hops x hx _ ev
      simp only [AV.rep] at hv
      obtain ⟨h1, ad, n, c, h2, h3⟩ := hv
      obtain ⟨css, F', h4, h5, h6, h7⟩ := hM.row h1 (hsub _ _ eo)
      obtain ⟨vs, F1, h8, h9, h10⟩ := repRows_get h4 i cs hcs
      obtain ⟨A, c', h11, _, h12⟩ := h6
      have hlt : 0 < rows.length := by have := (List.getElem?_eq_some_iff.1 hcs).1; omega
      obtain ⟨ad', h13, _, h14⟩ := h12 hlt
      rw [h2] at h11
      injection h11 with h15 _ _
      rw [h13] at h15
      injection h15 with h15
      subst h15
      obtain ⟨u, h16, h17⟩ := hr O G w (ad.add (i * sz)) vs F1 h9 (h7.sub h10) (fun j u hu => by rw [add_of_add]; exact h14 i vs h8 j u hu)
      rw [add_of_add] at h16
      exact ⟨u, run_load_op h3 h16, h17⟩
    · rename_i sz' rows
      obtain ⟨rfl, cs, hcs, h⟩ := h
      obtain ⟨av, hK, hr⟩ := loadC_sound (hE t ti e) h
      refine SoundB.quiet hw hK (fun w0 O G w a hsub hM hops => ?_)
      have hv := hops x hx _ ev
      simp only [AV.rep] at hv
      obtain ⟨h1, ad, n, c, h2, h3⟩ := hv
      obtain ⟨css, h4, h5, h6⟩ := hM.tmp h1 (hsub _ _ eo)
      obtain ⟨vs, h8, h9⟩ := repCss_get h4 i cs hcs
      obtain ⟨A, c', h11, _, h12⟩ := h6
      have hlt : 0 < rows.length := by have := (List.getElem?_eq_some_iff.1 hcs).1; omega
      obtain ⟨ad', h13, _, h14⟩ := h12 hlt
      rw [h2] at h11
      injection h11 with h15 _ _
      rw [h13] at h15
      injection h15 with h15
      subst h15
      obtain ⟨u, h16, h17⟩ := hr O G w (ad.add (i * sz)) vs h9 (fun j u hu => by rw [add_of_add]; exact h14 i vs h8 j u hu)
      rw [add_of_add] at h16
      exact ⟨u, run_load_op h3 h16, h17⟩
    · exact h.elim
  · rename_i cells off
    obtain ⟨av, hK, hr⟩ := loadT_sound (hE t ti e) h
    refine SoundB.quiet hw hK (fun w0 O G w a hsub hM hops => ?_)
    have hv := hops x hx _ ev
    simp only [AV.rep] at hv
    obtain ⟨ad, cs, F, h1, h2, h3, h4, h5⟩ := hv
    obtain ⟨u, h6, h7⟩ := hr O G w ad cs F h2 (h3.sub (by simp +contextual)) h5
    exact ⟨u, run_load_op h1 h6, h7⟩
  · rename_i cells
    obtain ⟨av, hK, hr⟩ := loadT_sound (hE t ti e) h
    refine SoundB.quiet hw hK (fun w0 O G w a hsub hM hops => ?_)
    obtain ⟨F0, hv, him⟩ := hops x hx _ ev
    simp only [T.rep] at hv
    obtain ⟨ad, cs, F, h1, h2, rfl, h3, h5⟩ := hv
    obtain ⟨u, h6, h7⟩ := hr O G w ad cs F h3 (him.sub (by simp +contextual)) h5
    rw [addr_add0] at h6
    exact ⟨u, run_load_op h1 h6, h7⟩
  · exact h.elim

theorem sound_makeSlice (hE : TOk P E) (hw : σ.wf) {t : Nat} {l c : Operand}
    (h : opB P E vl (.makeSlice t l c) σ K) : SoundB P vl ⟨dst, .makeSlice t l c, type, pos, after, guard⟩ σ K := by
  simp only [opB] at h
  have h' := need_some h; clear h
  obtain ⟨ti, e, h⟩ := h'
  generalize hk : ti.k = k0 at h
  cases k0 <;> try exact h.elim
  rename_i el
  have h' := need_some h; clear h
  obtain ⟨te, ee, h⟩ := h'
  have h' := need_some h; clear h
  obtain ⟨v, ev, h⟩ := h'
  split at h
  · rename_i kl n
    have h' := need_some h; clear h
    obtain ⟨v', ev', h⟩ := h'
    split at h
    · rename_i kc n'
      obtain ⟨m, ⟨rfl, rfl⟩, ⟨hb1, hb2⟩, h⟩ := h
      obtain ⟨d, hd, _, hkk⟩ := (hE t ti e).desc
      rw [hk] at hkk
      simp only [TKok] at hkk
      subst hkk
      obtain ⟨i, z, hi, hs, hb, hz, hzc, hzs⟩ := (hE el te ee).info
      refine ⟨_, _, h, σ.ext_new _, St.wf_new σ hw _, newRow_goes hw (fun w0 O G w a _ hM hr => ?_)⟩
      have h1 := int_of (hr l (by simp [Op.operands]) _ ev)
      have h2 := int_of (hr c (by simp [Op.operands]) _ ev')
      have hrun := run_make (P := P) w t el i z hd hi hz kl kc (m : Int) (m : Int) (by omega) (Int.le_refl _) (by
        rw [hb]
        have : ((te.bytes * m : Nat) : Int) ≤ 281474976710656 := by rw [Nat.mul_comm]; omega
        rwa [Int.natCast_mul] at this) (by omega)
      simp only [Int.toNat_natCast] at hrun
      refine ⟨madeCells z.cells (m * i.size), el, m, m, by simp [execOp, h1, h2, hrun], fun G' hφ hΦ p => ?_⟩
      have hz1 : z.cells.toList = te.zero.map C.plain := by rw [hzc]
      have hcur : (madeCells z.cells (m * i.size)).toList = (List.replicate m (te.zero.map C.plain)).flatten := by rw [hs, ← hzs, made_flat, hz1]
      have hzl : (te.zero.map C.plain).length = te.size := by rw [← hz1]; simpa using hzs
      refine ⟨List.replicate m (te.zero.map C.plain), [], repRows_replicate (zeros_rep (hE el te ee).plain) m, ?_, ?_, ?_⟩
      · intro cs hcs
        rw [(List.mem_replicate.1 hcs).2]
        exact hzl
      · simp only [if_true]
        rw [hφ]
        have hfl : (List.replicate m (te.zero.map C.plain)).flatten.length = m * te.size := by
          rw [← hcur]
          simp [size_madeCells, hs]
        refine ⟨⟨by simpa using hfl, ?_⟩, hΦ.2⟩
        rcases Nat.eq_zero_or_pos m with h0 | h0
        · subst h0
          exact .inl ⟨_, rfl, by simp⟩
        · refine .inr ⟨w.heap.size, 0, m, _, el, by simp, h0, Go.heap_alloc_new w _, by simp, by simp only [maxLen]; omega, by rw [size_madeCells, hs, Nat.zero_add], ?_⟩
          rw [hcur, List.drop_zero]
          exact List.take_of_length_le (by simp only [List.length_replicate]; omega)
      · simp only [if_true]
        rw [hΦ.1, hΦ.2]
        simp
    · exact h.elim
  · exact h.elim

theorem sound_indexAddr (hE : TOk P E) (hw : σ.wf) {t : Nat} {x i : Operand}
    (h : opB P E vl (.indexAddr t x i) σ K) : SoundB P vl ⟨dst, .indexAddr t x i, type, pos, after, guard⟩ σ K := by
  simp only [opB] at h
  have h' := need_some h; clear h
  obtain ⟨ti, e, h⟩ := h'
  generalize hk : ti.k = k0 at h
  cases k0 <;> try exact h.elim
  rename_i el
  have h' := need_some h; clear h
  obtain ⟨te, ee, h⟩ := h'
  have h' := need_some h; clear h
  obtain ⟨vi, evi, h⟩ := h'
  obtain ⟨d, hd, _, hkk⟩ := (hE t ti e).desc
  rw [hk] at hkk
  simp only [TKok] at hkk
  subst hkk
  obtain ⟨inf, z, hi, hs, _⟩ := (hE el te ee).info
  have hx : x ∈ (Op.indexAddr t x i).operands := by simp [Op.operands]
  have hxi : i ∈ (Op.indexAddr t x i).operands := by simp [Op.operands]
  split at h
  · rename_i k n
    have h' := need_some h; clear h
    obtain ⟨v, ev, h⟩ := h'
    split at h
    · rename_i id
      have h' := need_some h; clear h
      obtain ⟨ob, eo, h⟩ := h'
      split at h
      · rename_i own app sz rows
        obtain ⟨hsz, j, rfl, hj, h⟩ := h
        refine SoundB.quiet hw h (fun w0 O G w a hsub hM hops => ?_)
        obtain ⟨h1, h2, _⟩ := hops x hx _ ev
        obtain ⟨css, F', h4, h5, h6, h7⟩ := hM.row h1 (hsub _ _ eo)
        obtain ⟨A, c', h11, _, h12⟩ := h6
        obtain ⟨ad, h13, _⟩ := h12 (by omega)
        rw [h13] at h11
        refine ⟨.pointer (some (ad.add (j * sz))), ?_, ?_⟩
        · have hr := run_indexAt (P := P) hd hi ad rows.length c' k j hj w
          rw [hs, hsz] at hr
          simp [execOp, int_of (hops i hxi _ evi), h2, h11, hr]
        · simp only [AV.rep]
          exact ⟨h1, ad, _, _, h11, rfl⟩
      · rename_i sz rows
        obtain ⟨hsz, j, rfl, hj, h⟩ := h
        refine SoundB.quiet hw h (fun w0 O G w a hsub hM hops => ?_)
        obtain ⟨h1, h2, _⟩ := hops x hx _ ev
        obtain ⟨css, h4, h5, h6⟩ := hM.tmp h1 (hsub _ _ eo)
        obtain ⟨A, c', h11, _, h12⟩ := h6
        obtain ⟨ad, h13, _⟩ := h12 (by omega)
        rw [h13] at h11
        refine ⟨.pointer (some (ad.add (j * sz))), ?_, ?_⟩
        · have hr := run_indexAt (P := P) hd hi ad rows.length c' k j hj w
          rw [hs, hsz] at hr
          simp [execOp, int_of (hops i hxi _ evi), h2, h11, hr]
        · simp only [AV.rep]
          exact ⟨h1, ad, _, _, h11, rfl⟩
      · exact h.elim
    · rename_i rows
      obtain ⟨j, cs, rfl, hj, hl, h⟩ := h
      refine SoundB.quiet hw h (fun w0 O G w a hsub hM hops => ?_)
      obtain ⟨F, h1, him⟩ := hops x hx _ ev
      simp only [T.rep] at h1
      obtain ⟨A, c, h2, h3, h4⟩ := h1
      have hjl := (List.getElem?_eq_some_iff.1 hj).1
      rcases h4 with ⟨rfl, _⟩ | ⟨ad, css, F', sz, hne, rfl, hlt, rfl, hrr, hg⟩
      · simp at hjl
      · obtain ⟨vs, F1, h5, h6, h7⟩ := repRows_get hrr j cs hj
        obtain ⟨h8, h9⟩ := hg j vs h5
        have hsz : sz = te.size := by rw [← h8, repCells_length h6, hl]
        refine ⟨.pointer (some (ad.add (j * sz))), ?_, ?_⟩
        · have hr := run_indexAt (P := P) hd hi ad rows.length c k j hjl w
          rw [hs, ← hsz] at hr
          simp [execOp, int_of (hops i hxi _ evi), h2, hr]
        · simp only [AV.rep]
          refine ⟨ad.add (j * sz), vs, F1, by rw [addr_add0], h6, ?_, by rw [block_of_add]; exact hlt, fun q u hu => by rw [add_of_add]; exact h9 q u hu⟩
          rw [block_of_add]
          exact him.sub (fun b hb => by rcases List.mem_cons.1 hb with rfl | hb <;> simp_all)
    · rename_i id sz lo hi'
      obtain ⟨hsz, j, rfl, hj, h⟩ := h
      refine SoundB.quiet hw h (fun w0 O G w a hsub hM hops => ?_)
      obtain ⟨h1, h2, A, c, h3, _, h4⟩ := hops x hx _ ev
      obtain ⟨ad, n', c', h5, rfl, _⟩ := h4 (by omega)
      refine ⟨.pointer (some ((ad.add (lo * sz)).add (j * sz))), ?_, ?_⟩
      · have hr := run_indexAt (P := P) hd hi (ad.add (lo * sz)) (hi' - lo) c k j hj w
        rw [hs, hsz] at hr
        simp [execOp, int_of (hops i hxi _ evi), h3, hr]
      · simp only [AV.rep]
        exact ⟨h1, ad, _, _, h5, by rw [add_of_add, ← Nat.add_mul, Nat.add_zero]⟩
    · exact h.elim
  · exact h.elim

theorem sound_len (hE : TOk P E) (hw : σ.wf) {args : Array Operand} {argTypes : Array TypeId}
    (h : opB P E vl (.call { callee := .builtin .len, args, argTypes }) σ K) : SoundB P vl ⟨dst, .call { callee := .builtin .len, args, argTypes }, type, pos, after, guard⟩ σ K := by
  obtain ⟨args⟩ := args
  obtain ⟨argTypes⟩ := argTypes
  simp only [opB] at h
  split at h
  · rename_i x t
    have h' := need_some h; clear h
    obtain ⟨ti, e, h⟩ := h'
    generalize hk : ti.k = k0 at h
    cases k0 <;> try exact h.elim
    rename_i el
    have h' := need_some h; clear h
    obtain ⟨v, ev, h⟩ := h'
    obtain ⟨d, hd, _, hkk⟩ := (hE t ti e).desc
    rw [hk] at hkk
    simp only [TKok] at hkk
    subst hkk
    have run : ∀ (a : Act) (w : World) A n c, a.eval x = .slice A n c →
        (execOp a.eval ⟨dst, .call { callee := .builtin .len, args := ⟨[x]⟩, argTypes := ⟨[t]⟩ }, type, pos, after, guard⟩).run P w = .ok (.value (.int .i64 (n : Int))) w := fun a w A n c hx => by
      simp [execOp, resolve, invoke, builtin, Builtin.len_, run_underlying hd, hx, goInt]
    have hx : x ∈ (Op.call { callee := .builtin .len, args := ⟨[x]⟩, argTypes := ⟨[t]⟩ }).operands := by simp [Op.operands, Call.operands]
    split at h
    · refine SoundB.quiet hw h (fun w0 O G w a hsub hM hops => ?_)
      have hv := hops x hx _ ev
      exact ⟨_, run a w _ _ _ hv, vint_rep _ _⟩
    · refine SoundB.quiet hw h (fun w0 O G w a hsub hM hops => ?_)
      obtain ⟨A, hv⟩ := hops x hx _ ev
      exact ⟨_, run a w _ _ _ hv, vint_rep _ _⟩
    · refine SoundB.quiet hw h (fun w0 O G w a hsub hM hops => ?_)
      obtain ⟨F, hv, _⟩ := hops x hx _ ev
      simp only [T.rep] at hv
      obtain ⟨A, c, hv, _⟩ := hv
      exact ⟨_, run a w _ _ _ hv, vint_rep _ _⟩
    · refine SoundB.quiet hw h (fun w0 O G w a hsub hM hops => ?_)
      obtain ⟨_, _, A, c, hv, _⟩ := hops x hx _ ev
      exact ⟨_, run a w _ _ _ hv, vint_rep _ _⟩
    · have h' := need_some h; clear h
      obtain ⟨ob, eo, h⟩ := h'
      split at h
      · refine SoundB.quiet hw h (fun w0 O G w a hsub hM hops => ?_)
        obtain ⟨h1, h2, _⟩ := hops x hx _ ev
        obtain ⟨css, F', h4, h5, h6, h7⟩ := hM.row h1 (hsub _ _ eo)
        obtain ⟨A, c', h11, _, h12⟩ := h6
        exact ⟨_, run a w _ _ _ (h2.trans h11), vint_rep _ _⟩
      · refine SoundB.quiet hw h (fun w0 O G w a hsub hM hops => ?_)
        obtain ⟨h1, h2, _⟩ := hops x hx _ ev
        obtain ⟨css, h4, h5, h6⟩ := hM.tmp h1 (hsub _ _ eo)
        obtain ⟨A, c', h11, _, h12⟩ := h6
        exact ⟨_, run a w _ _ _ (h2.trans h11), vint_rep _ _⟩
      · exact h.elim
    · exact h.elim
  · exact h.elim

theorem sound_slice (hE : TOk P E) (hw : σ.wf) {t : Nat} {x : Operand} {lo hi mx : Option Operand}
    (h : opB P E vl (.slice t x lo hi mx) σ K) : SoundB P vl ⟨dst, .slice t x lo hi mx, type, pos, after, guard⟩ σ K := by
  have hx : x ∈ (Op.slice t x lo hi mx).operands := by simp [Op.operands]
  have hlo : ∀ y, lo = some y → y ∈ (Op.slice t x lo hi mx).operands := fun y hy => by subst hy; simp [Op.operands]
  have hhi : ∀ y, hi = some y → y ∈ (Op.slice t x lo hi mx).operands := fun y hy => by subst hy; simp [Op.operands]
  have hmx : ∀ y, mx = some y → y ∈ (Op.slice t x lo hi mx).operands := fun y hy => by subst hy; simp [Op.operands]
  have bnd : ∀ {O G w a}, OpsRep vl (Op.slice t x lo hi mx) O G w a → ∀ (q : Option Operand) (l d : Nat), (∀ y, q = some y → y ∈ (Op.slice t x lo hi mx).operands) →
      (match q with | some y => vl y = some (vint .i64 (l : Int)) | none => l = d) → q.map a.eval = some (.int .i64 (l : Int)) ∨ (q.map a.eval = none ∧ l = d) := by
    intro O G w a hops q l d hq h
    cases q with
    | none => exact .inr ⟨rfl, h⟩
    | some y => exact .inl (by rw [Option.map_some, int_of (hops y (hq y rfl) _ h)])
  cases mx with
  | none =>
    simp only [opB] at h
    have h' := need_some h; clear h
    obtain ⟨ti, e, h⟩ := h'
    generalize hk : ti.k = k0 at h
    cases k0 <;> try exact h.elim
    rename_i el
    have h' := need_some h; clear h
    obtain ⟨te, ee, h⟩ := h'
    have h' := need_some h; clear h
    obtain ⟨v, ev, h⟩ := h'
    obtain ⟨d, hd, _, hkk⟩ := (hE t ti e).desc
    rw [hk] at hkk
    simp only [TKok] at hkk
    subst hkk
    obtain ⟨inf, z, hi', hs, _⟩ := (hE el te ee).info
    split at h
    · rename_i rows
      obtain ⟨l, hh, h1, h2, ⟨h3, h4⟩, h5, h⟩ := h
      refine SoundB.quiet hw h (fun w0 O G w a hsub hM hops => ?_)
      have b1 := bnd hops lo l 0 hlo (by cases lo <;> exact h1)
      have b2 := bnd hops hi hh rows.length hhi (by cases hi <;> exact h2)
      obtain ⟨F, h6, him⟩ := hops x hx _ ev
      simp only [T.rep] at h6
      obtain ⟨A, c, h7, h8, h9⟩ := h6
      have hr := run_slice (P := P) hd hi' A rows.length c l hh h3 h4 h8 w (lo.map a.eval) (hi.map a.eval) b1 b2
      refine ⟨_, by simp only [execOp, Option.map_none, h7]; rw [Sem.run_bind, hr]; rfl, ?_⟩
      have hlen : ((rows.take hh).drop l).length = hh - l := by simp; omega
      rcases Nat.lt_or_ge l hh with hlt | hge
      · rcases h9 with ⟨rfl, _⟩ | ⟨ad, css, F', sz, hne, rfl, hlt', rfl, hrr, hg⟩
        · simp at h4; omega
        · obtain ⟨F1, h10, h11⟩ := repRows_take hh hrr
          obtain ⟨F2, h12, h13⟩ := repRows_drop l h10
          have hsz : sz = te.size := by
            cases rows with
            | nil => simp at h4; omega
            | cons r rs =>
              obtain ⟨vs, F3, h14, h15, _⟩ := repRows_get hrr 0 r (by simp)
              rw [← (hg 0 vs h14).1, repCells_length h15, h5 r (by simp)]
          refine ⟨ad.block :: F2, ?_, him.sub (fun b hb => by
            rcases List.mem_cons.1 hb with rfl | hb
            · simp
            · simp [h11 b (h13 b hb)])⟩
          simp only [T.rep]
          refine ⟨some (ad.add (l * inf.size)), c - l, ?_, by rw [hlen]; omega, .inr ⟨ad.add (l * inf.size), (css.take hh).drop l, F2, sz, ?_, rfl, by rw [block_of_add]; exact hlt', by rw [block_of_add], h12, fun i cs hi2 => ?_⟩⟩
          · rw [hlen, if_neg (by omega)]; rfl
          · intro e0; rw [e0] at hlen; simp at hlen; omega
          · rw [List.getElem?_drop] at hi2
            have hlt2 : l + i < hh := by have := (List.getElem?_eq_some_iff.1 hi2).1; simp at this; omega
            rw [List.getElem?_take_of_lt hlt2] at hi2
            obtain ⟨h16, h17⟩ := hg (l + i) cs hi2
            refine ⟨h16, fun j u hu => ?_⟩
            rw [add_of_add, hs, ← hsz, ← Nat.add_assoc, ← Nat.add_mul]
            exact h17 j u hu
      · refine ⟨[], ?_, him.sub (by simp)⟩
        simp only [T.rep]
        have hnil : (rows.take hh).drop l = [] := List.eq_nil_of_length_eq_zero (by rw [hlen]; omega)
        rw [hnil]
        exact ⟨_, c - l, by rw [show hh - l = 0 by omega]; rfl, by simp, .inl (by simp)⟩
    · rename_i id
      have h' := need_some h; clear h
      obtain ⟨ob, eo, h⟩ := h'
      split at h
      · rename_i own app sz rows
        obtain ⟨hsz, l, hh, h1, h2, ⟨h3, h4⟩, h⟩ := h
        refine SoundB.quiet hw h (fun w0 O G w a hsub hM hops => ?_)
        have b1 := bnd hops lo l 0 hlo (by cases lo <;> exact h1)
        have b2 := bnd hops hi hh rows.length hhi (by cases hi <;> exact h2)
        obtain ⟨h5, h6, _⟩ := hops x hx _ ev
        obtain ⟨css, F', h7, h8, h9, h10⟩ := hM.row h5 (hsub _ _ eo)
        obtain ⟨A, c, h11, h12, h13⟩ := h9
        have hr := run_slice (P := P) hd hi' A rows.length c l hh h3 h4 h12 w (lo.map a.eval) (hi.map a.eval) b1 b2
        refine ⟨_, by simp only [execOp, Option.map_none, h6.trans h11]; rw [Sem.run_bind, hr]; rfl, ?_⟩
        refine ⟨h5, h3, _, _, rfl, by omega, fun hlt => ?_⟩
        obtain ⟨ad, rfl, _⟩ := h13 (by omega)
        exact ⟨ad, _, _, h11, by rw [if_neg (by omega), hs, hsz]; rfl, h4, by omega⟩
      · exact h.elim
    · exact h.elim
  | some m =>
    cases lo with
    | some y => simp [opB] at h
    | none =>
    cases hi with
    | none => simp [opB] at h
    | some y =>
    simp only [opB] at h
    have h' := need_some h; clear h
    obtain ⟨ti, e, h⟩ := h'
    generalize hk : ti.k = k0 at h
    cases k0 <;> try exact h.elim
    rename_i el
    have h' := need_some h; clear h
    obtain ⟨te, ee, h⟩ := h'
    have h' := need_some h; clear h
    obtain ⟨v, ev, ⟨h1, h2⟩, h⟩ := h'
    obtain ⟨d, hd, _, hkk⟩ := (hE t ti e).desc
    rw [hk] at hkk
    simp only [TKok] at hkk
    subst hkk
    obtain ⟨inf, z, hi', hs, _⟩ := (hE el te ee).info
    have run : ∀ {O G w a}, OpsRep vl (Op.slice t x none (some y) (some m)) O G w a → ∀ A n c, a.eval x = .slice A n c →
        (execOp a.eval ⟨dst, .slice t x none (some y) (some m), type, pos, after, guard⟩).run P w = .ok (.value (.slice A 0 0)) w := by
      intro O G w a hops A n c hv
      have e1 := int_of (hops y (hhi y rfl) _ h1)
      have e2 := int_of (hops m (hmx m rfl) _ h2)
      simp [execOp, hv, e1, e2, Instr.sliceAt, Instr.slice, Instr.sliceBounds, Instr.sliceBound, asIntOf, run_underlying hd, sizeOf, typeInfo, hi']
    split at h
    · refine SoundB.quiet hw h (fun w0 O G w a hsub hM hops => ?_)
      obtain ⟨F, h6, him⟩ := hops x hx _ ev
      simp only [T.rep] at h6
      obtain ⟨A, c, h7, _⟩ := h6
      exact ⟨_, run hops _ _ _ h7, A, rfl⟩
    · refine SoundB.quiet hw h (fun w0 O G w a hsub hM hops => ?_)
      have h6 := hops x hx _ ev
      exact ⟨_, run hops _ _ _ h6, none, rfl⟩
    · rename_i id
      have h' := need_some h; clear h
      obtain ⟨ob, eo, h⟩ := h'
      split at h
      · refine SoundB.quiet hw h (fun w0 O G w a hsub hM hops => ?_)
        obtain ⟨h5, h6, _⟩ := hops x hx _ ev
        obtain ⟨css, F', h7, h8, h9, h10⟩ := hM.row h5 (hsub _ _ eo)
        obtain ⟨A, c, h11, _⟩ := h9
        exact ⟨_, run hops _ _ _ (h6.trans h11), A, rfl⟩
      · exact h.elim
    · exact h.elim

/-- A proved function, called. -/
theorem callee_rep {O : List (Nat × Ob)} {G : Gh} {w : World} {w0 : Base} (hM : Mem w0 O G w) {f : Operand} {fe : FuncId × List V} (h : callee vl O f = some fe) {a : Act} (hr : ∀ v, vl f = some v → v.rep O G w (a.eval f)) :
    ∃ caps : List Value, a.eval f = .func (.func fe.1) #[] caps.toArray ∧ repVs w fe.2 caps := by
  unfold callee at h
  split at h
  · rename_i fid ids e
    split at h
    · rename_i bs e2
      injection h with h
      subst h
      obtain ⟨h1, h2⟩ := hr _ e
      obtain ⟨F, h3⟩ := boxTs_sound hM e2 h2
      exact ⟨_, h1, repVs_ones h3⟩
    · cases h
  · rename_i fid caps e
    injection h with h
    subst h
    obtain ⟨F, h1, _⟩ := hr _ e
    simp only [T.rep] at h1
    obtain ⟨vs, h2, h3⟩ := h1
    exact ⟨vs, h2, repVs_ones h3⟩
  · cases h

theorem run_call {f : FuncId} (hf : Enter P f) {fo : Operand} {args : Array Operand} {argTypes : Array TypeId} {a : Act} {caps : List Value} (he : a.eval fo = .func (.func f) #[] caps.toArray) (w : World) :
    (execOp a.eval ⟨dst, .call { callee := .value fo, args, argTypes }, type, pos, after, guard⟩).run P w = .ok (.enter f ((args.toList.map a.eval ++ caps).toArray)) w := by
  obtain ⟨fn, c, h1, h2, h3⟩ := hf
  have e : (Array.map a.eval args) ++ caps.toArray = (args.toList.map a.eval ++ caps).toArray := by
    apply Array.ext'
    simp
  have h3' : ¬ fn.name = "runtime.NumGoroutine" := by simpa using h3
  simp [execOp, resolve, he, Deferred.ofValue, invoke, callFunc, h1, h2, h3', e]

theorem impC_st (σ : St) : ∀ x : RC, σ.ext (impC σ x).2 ∧ (σ.wf → (impC σ x).2.wf)
  | .s _ => ⟨σ.ext_refl, id⟩
  | .l _ _ => ⟨σ.ext_new _, fun h => St.wf_new σ h _⟩
  | .w _ _ => ⟨σ.ext_new _, fun h => St.wf_new σ h _⟩
theorem impCs_st : ∀ (xs : List RC) (σ : St), σ.ext (impCs σ xs).2 ∧ (σ.wf → (impCs σ xs).2.wf)
  | [], σ => ⟨σ.ext_refl, id⟩
  | x :: xs, σ => ⟨St.ext_trans (impC_st σ x).1 (impCs_st xs _).1, fun h => (impCs_st xs _).2 ((impC_st σ x).2 h)⟩
theorem impV_st (σ : St) : ∀ x : RV, σ.ext (impV σ x).2 ∧ (σ.wf → (impV σ x).2.wf)
  | .one x => impC_st σ x
  | .agg xs => impCs_st xs σ
theorem impVs_st : ∀ (xs : List RV) (σ : St), σ.ext (impVs σ xs).2 ∧ (σ.wf → (impVs σ xs).2.wf)
  | [], σ => ⟨σ.ext_refl, id⟩
  | x :: xs, σ => ⟨St.ext_trans (impV_st σ x).1 (impVs_st xs _).1, fun h => (impVs_st xs _).2 ((impV_st σ x).2 h)⟩
theorem impR_st (σ : St) : ∀ xs : List RV, σ.ext (impR σ xs).2 ∧ (σ.wf → (impR σ xs).2.wf)
  | [x] => impV_st σ x
  | [] => impVs_st [] σ
  | x :: y :: zs => impVs_st (x :: y :: zs) σ

theorem mapO_mono {α β : Type} {f g : α → Option β} (h : ∀ x y, f x = some y → g x = some y) : ∀ (xs : List α) (ys : List β), mapO f xs = some ys → mapO g xs = some ys
  | [], ys, e => e
  | x :: xs, ys, e => by
    simp only [mapO] at e ⊢
    split at e
    · rename_i y ys' e1 e2
      rw [h x y e1, mapO_mono h xs ys' e2]
      exact e
    · cases e
section
variable {O O' : List (Nat × Ob)} (hsub : ∀ id ob, get O id = some ob → get O' id = some ob)
include hsub
theorem T1_mono (x : C) (y : T) (h : T1 O x = some y) : T1 O' x = some y := by
  cases x <;> simp only [T1] at h ⊢ <;> try exact h
  all_goals
    split at h
    · rename_i e
      rw [hsub _ _ e]
      exact h
    · first | (rename_i e; rw [hsub _ _ e]; exact h) | cases h
  all_goals cases h
theorem boxT_mono (x : Nat) (y : T) (h : boxT O x = some y) : boxT O' x = some y := by
  simp only [boxT] at h ⊢
  split at h
  · rename_i cs e
    rw [hsub _ _ e]
    split at h
    · rename_i ts e2
      simp only [mapO_mono (T1_mono hsub) _ _ e2]
      exact h
    · cases h
  · cases h
theorem T2_mono (x : C) (y : T) (h : T2 O x = some y) : T2 O' x = some y := by
  cases x with
  | nil => exact h
  | nil0 => exact h
  | anc x => exact h
  | t x => exact h
  | view id sz lo hi => exact T1_mono hsub (.view id sz lo hi) y h
  | ref id =>
    simp only [T2] at h ⊢
    split at h
    · rename_i e
      rw [hsub _ _ e]
      exact h
    · rename_i e
      rw [hsub _ _ e]
      exact h
    · rename_i e
      rw [hsub _ _ e]
      split at h
      · rename_i ts e2
        simp only [mapO_mono (mapO_mono (T1_mono hsub)) _ _ e2]
        exact h
      · cases h
    · cases h
  | fn f ids =>
    simp only [T2] at h ⊢
    split at h
    · rename_i bs e
      rw [mapO_mono (boxT_mono hsub) _ _ e]
      exact h
    · cases h
theorem argV_mono (x : AV) (y : V) (h : argV O x = some y) : argV O' x = some y := by
  unfold argV at h ⊢
  split at h
  · split at h
    · rename_i e
      rw [T2_mono hsub _ _ e]
      exact h
    · cases h
  · split at h
    · rename_i e
      rw [mapO_mono (T2_mono hsub) _ _ e]
      exact h
    · cases h
  · split at h
    · rename_i e
      rw [boxT_mono hsub _ _ e]
      exact h
    · cases h
  · cases h
theorem callee_mono {f : Operand} {fe : FuncId × List V} (h : callee vl O f = some fe) : callee vl O' f = some fe := by
  unfold callee at h ⊢
  split at h
  · split at h
    · rename_i e1 _ e
      rw [mapO_mono (boxT_mono hsub) _ _ e]
      exact h
    · cases h
  · exact h
  · cases h
end

theorem sound_call (hw : σ.wf) {f : Operand} {args : Array Operand} {argTypes : Array TypeId}
    (h : opB P E vl (.call { callee := .value f, args, argTypes }) σ K) : SoundB P vl ⟨dst, .call { callee := .value f, args, argTypes }, type, pos, after, guard⟩ σ K := by
  simp only [opB] at h
  have h' := need_some h; clear h
  obtain ⟨fe, efe, h⟩ := h'
  have h' := need_some h; clear h
  obtain ⟨avs, eavs, h⟩ := h'
  have h' := need_some h; clear h
  obtain ⟨as, eas, rs, hfn, h⟩ := h'
  refine ⟨_, _, h, (impR_st σ rs).1, (impR_st σ rs).2 hw, ?_⟩
  intro w0 O G w a Kc Q hsub hM hops hfr hK
  have hsub0 : ∀ id ob, get σ.objs id = some ob → get O id = some ob := fun id ob h => hsub id ob (by rw [(impR_st σ rs).1.objs id (hw id ob h)]; exact h)
  obtain ⟨hent, hfn⟩ := hfn
  have hfo : f ∈ (Op.call { callee := .value f, args, argTypes }).operands := by simp [Op.operands, Call.operands]
  obtain ⟨caps, hc1, hc2⟩ := callee_rep hM (callee_mono hsub0 efe) (a := a) (hops f hfo)
  have hargs := vals_rep (O := O) (G := G) (w := w) (a := a) eavs (fun x hx => hops x (by simp only [Op.operands, Call.operands]; simp [Array.mem_toList_iff.1 hx]))
  have hreps := repVs_append (argVs_sound hM (mapO_mono (argV_mono hsub0) _ _ eas) hargs) hc2
  have hcall := hfn w _ hreps
  unfold Oper.wp
  rw [run_call hent hc1 w]
  show Calls P fe.1 _ w _
  refine hcall.mono fun e w' hpost => ?_
  obtain ⟨us, F, v, rfl, hret, hus, hnd, hfresh, hb⟩ := hpost
  obtain ⟨l, imp⟩ := impR_sound hw hus hret
  have hlt : ∀ j, σ.next ≤ j → j < σ.next + l.length → ¬ G.A j := fun j h1 h2 => hfr j h1 (by rw [imp.next]; exact h2)
  obtain ⟨hM', hp⟩ := hM.newL σ.next l hlt hb (by rw [imp.flat]; exact hnd) (fun p hp b hbp => hfresh b (by rw [← imp.flat]; exact List.mem_flatten.2 ⟨p.2, List.mem_map.2 ⟨p, hp, rfl⟩, hbp⟩)) imp.hds
    (fun k o hk ho p => by
      obtain ⟨o', ho'⟩ := imp.have_ k hk
      have := hsub _ _ ho'
      rw [ho] at this
      injection this with this
      subst this
      have hn := Gh.addL_new (G := G) (n := σ.next) hk
      exact imp.obs k hk o ho' O _ hn.1 hn.2)
  refine hK _ v w' hM' hp (imp.rep O _ fun k hk => ?_) (fun j hj => ?_)
  · have hn := Gh.addL_new (G := G) (n := σ.next) hk
    exact ⟨.inr ⟨by omega, by omega⟩, hn.1⟩
  · rw [imp.next]
    exact hj

theorem push_list : ∀ (bs : List UInt8) (s : List UInt8), (bs.map (fun b : UInt8 => (b.toNat : Int))).foldl (fun r n => r.push (UInt8.ofNat n.toNat)) (⟨s.toArray⟩ : ByteArray) = ⟨(s ++ bs).toArray⟩
  | [], s => by simp
  | b :: bs, s => by
    have e : (⟨s.toArray⟩ : ByteArray).push (UInt8.ofNat ((b.toNat : Int)).toNat) = ⟨(s ++ [b]).toArray⟩ := by simp [ByteArray.push]
    rw [List.map_cons, List.foldl_cons, e, push_list bs (s ++ [b]), List.append_assoc]
    rfl
theorem repRows_bytes {w : World} : ∀ {bs : List UInt8} {css : List (List Value)} {F : List Nat}, repRows w (bs.map (fun b => [T.int .u8 (b.toNat : Int)])) css F → css = bs.map (fun b => [Value.int .u8 (b.toNat : Int)])
  | [], css, F, h => by simp only [List.map_nil, repRows] at h; simp [h.1]
  | b :: bs, css, F, h => by
    simp only [List.map_cons, repRows] at h
    obtain ⟨cs, css', F1, F2, rfl, _, h1, h2⟩ := h
    simp only [repCells] at h1
    obtain ⟨v, cs', _, _, rfl, _, hv, h3, _⟩ := h1
    simp only [T.rep] at hv
    rw [h3, hv.1, repRows_bytes h2]
    rfl
theorem sound_convert (hE : TOk P E) (hw : σ.wf) {s d : Nat} {x : Operand} (h : opB P E vl (.convert s d x) σ K) : SoundB P vl ⟨dst, .convert s d x, type, pos, after, guard⟩ σ K := by
  simp only [opB] at h
  have h' := need_some h; clear h
  obtain ⟨ts, es, h⟩ := h'
  split at h
  · rename_i e hks
    have h' := need_some h; clear h
    obtain ⟨te, ee, h⟩ := h'
    have h' := need_some h; clear h
    obtain ⟨td, ed, ⟨hke, hkd⟩, h⟩ := h'
    have h' := need_some h; clear h
    obtain ⟨v, ev, h⟩ := h'
    have h' := need_some h; clear h
    obtain ⟨y, ey, h⟩ := h'
    split at h
    · obtain ⟨bs, rfl, h⟩ := h
      refine SoundB.quiet hw h (fun w0 O G w a hsub hM hops => ?_)
      obtain ⟨d1, hd1, _, hk1⟩ := (hE s ts es).desc
      obtain ⟨d2, hd2, _, hk2⟩ := (hE e te ee).desc
      obtain ⟨d3, hd3, _, hk3⟩ := (hE d td ed).desc
      rw [hks] at hk1
      rw [hke] at hk2
      rw [hkd] at hk3
      simp only [TKok] at hk1 hk2 hk3
      subst hk1 hk2 hk3
      obtain ⟨F, hr⟩ := argV_sound hM (argV_mono hsub _ _ ey) (hops x (by simp [Op.operands]) _ ev)
      have hr' : (T.lst (bs.map (fun b => [T.int .u8 (b.toNat : Int)]))).rep w (a.eval x) F := hr
      simp only [T.rep] at hr'
      obtain ⟨A, c, h1, h2, h3⟩ := hr'
      have hc := run_convert_bytes_string (P := P) w s d e A (bs.map (fun b => [T.int .u8 (b.toNat : Int)])).length c hd1 hd2 hd3
      have hb : (Conv.bytesToString (.slice A (bs.map (fun b => [T.int .u8 (b.toNat : Int)])).length c)).run P w = .ok (.string ⟨bs.toArray⟩) w := by
        have pl := push_list bs []
        rw [List.nil_append] at pl
        cases A with
        | none =>
          have h0 : bs = [] := by
            rcases h3 with ⟨h3, _⟩ | ⟨ad, _, _, _, _, h3, _⟩
            · exact List.map_eq_nil_iff.1 h3
            · cases h3
          subst h0
          rfl
        | some ad =>
          rw [← pl]
          refine run_bytesToString (P := P) w ad _ c (bs.map (fun b : UInt8 => (b.toNat : Int))) ?_
          have hl := run_loadCells_list (P := P) w ad (bs.map (fun b => Value.int .u8 (b.toNat : Int))) (fun j v hj => by
            rcases h3 with ⟨h3, _⟩ | ⟨ad', css, F', sz, _, h4, _, _, h5, h6⟩
            · have : bs = [] := List.map_eq_nil_iff.1 h3
              subst this
              simp at hj
            · injection h4 with h4
              subst h4
              have h7 := repRows_bytes h5
              subst h7
              rw [List.getElem?_map] at hj
              cases hb : bs[j]? with
              | none => rw [hb] at hj; cases hj
              | some b =>
                rw [hb] at hj
                injection hj with hj
                obtain ⟨h8, h9⟩ := h6 j [Value.int .u8 (b.toNat : Int)] (by rw [List.getElem?_map, hb]; rfl)
                have h10 := h9 0 (Value.int .u8 (b.toNat : Int)) rfl
                rw [← h8] at h10
                simpa [← hj] using h10)
          simpa [List.map_map, Function.comp_def] using hl
      refine ⟨.string ⟨bs.toArray⟩, ?_, ⟨[], ⟨rfl, rfl⟩, fun _ _ b hb => by simp at hb⟩⟩
      simp only [execOp, h1]
      rw [Sem.run_bind, hc, hb]
      rfl
    · exact h.elim
  · obtain ⟨av, hK, hg⟩ := opA_sound hE (o := ⟨dst, .convert s d x, type, pos, after, guard⟩) h
    exact SoundB.quiet hw hK (fun w0 O G w a _ _ hops => hg O G w a hops)

/-- THE SOUNDNESS OF 'opB'. -/
theorem opB_sound (hE : TOk P E) (hw : σ.wf) {o : Oper} (h : opB P E vl o.op σ K) : SoundB P vl o σ K := by
  obtain ⟨dst, op, type, pos, after, guard⟩ := o
  simp only at h
  cases op with
  | alloc t => exact sound_alloc hE hw h
  | box t x => exact sound_box hw h
  | build t parts => exact sound_build hE hw h
  | buildSlice t len parts => exact sound_buildSlice hE hw h
  | load t x => exact sound_load hE hw h
  | makeSlice t l c => exact sound_makeSlice hE hw h
  | indexAddr t x i => exact sound_indexAddr hE hw h
  | slice t x lo hi mx => exact sound_slice hE hw h
  | convert s d x => exact sound_convert hE hw h
  | call c =>
    obtain ⟨cal, args, argTypes⟩ := c
    cases cal with
    | value f => exact sound_call hw h
    | builtin b => cases b <;> first | exact sound_len hE hw h | (simp [opB] at h)
    | invoke r m => simp [opB] at h
  | _ => simp [opB] at h
end
end Go.Vm

namespace Go.Vm
open Go.RowKit

def dels {α : Type} (l : List (Nat × α)) : List Nat → List (Nat × α)
  | [] => l
  | n :: r => dels (del l n) r

theorem get_dels {α : Type} : ∀ (ids : List Nat) (l : List (Nat × α)) (j : Nat), (j ∈ ids → get (dels l ids) j = none) ∧ (j ∉ ids → get (dels l ids) j = get l j)
  | [], l, j => by simp [dels]
  | n :: r, l, j => by
    have ih := get_dels r (del l n) j
    refine ⟨fun h => ?_, fun h => ?_⟩
    · by_cases hr : j ∈ r
      · exact ih.1 hr
      · rcases List.mem_cons.1 h with rfl | h
        · simp only [dels]; rw [ih.2 hr, get_del_same]
        · exact absurd h hr
    · simp only [List.mem_cons, not_or] at h
      simp only [dels]
      rw [ih.2 h.2, get_del_other _ _ _ h.1]

def isScal : T → Bool
  | .int .. | .bool _ | .str _ | .raw _ => true
  | _ => false

/-- A cell that moves into a row: its data, and the objects that it takes with it. With 'own' all that it holds must be the call's own. -/
def moveC (O : List (Nat × Ob)) (own : Bool) : C → Option (T × List Nat)
  | .nil => some (.lst [], [])
  | .t x => bif (!own || isScal x) then some (x, []) else none
  | .ref id => match get O id with
    | some (.row o _ _ rows) => bif (!own || o) then some (.lst rows, [id]) else none
    | _ => none
  | _ => none
def moveCs (O : List (Nat × Ob)) (own : Bool) : List C → Option (List T × List Nat)
  | [] => some ([], [])
  | x :: xs => match moveC O own x, moveCs O own xs with
    | some (y, i), some (ys, is) => some (y :: ys, i ++ is)
    | _, _ => none
def moveCss (O : List (Nat × Ob)) (own : Bool) : List (List C) → Option (List (List T) × List Nat)
  | [] => some ([], [])
  | x :: xs => match moveCs O own x, moveCss O own xs with
    | some (y, i), some (ys, is) => some (y :: ys, i ++ is)
    | _, _ => none

def notIn (n : Nat) : List Nat → Bool
  | [] => true
  | k :: r => !(Nat.beq k n) && notIn n r
def nodupB : List Nat → Bool
  | [] => true
  | k :: r => notIn k r && nodupB r
theorem notIn_iff {n : Nat} : ∀ {l : List Nat}, notIn n l = true → n ∉ l
  | [], _ => by simp
  | k :: r, h => by
    simp only [notIn, Bool.and_eq_true, Bool.not_eq_true'] at h
    have := notIn_iff h.2
    intro hm
    rcases List.mem_cons.1 hm with rfl | hm
    · simp at h
    · exact this hm
theorem nodupB_iff : ∀ {l : List Nat}, nodupB l = true → l.Nodup
  | [], _ => by simp
  | k :: r, h => by
    simp only [nodupB, Bool.and_eq_true] at h
    exact List.nodup_cons.2 ⟨notIn_iff h.1, nodupB_iff h.2⟩

/-- The rows that a slice value shows (not taken from their owner). -/
def spread (O : List (Nat × Ob)) : AV → Option (List (List T))
  | .c .nil => some []
  | .c (.t (.lst rows)) => some rows
  | .c (.ref id) => match get O id with
    | some (.row _ _ _ rows) => some rows
    | _ => none
  | .c (.view id sz lo hi) => match get O id with
    | some (.row _ _ sz' rows) => bif Nat.beq sz sz' then some ((rows.take hi).drop lo) else none
    | _ => none
  | _ => none

/-- What 'append' begins with: nothing, or a row of the call's own. -/
def baseOf (O : List (Nat × Ob)) : AV → Option (Bool × List (List T) × Option Nat × List Nat)
  | .c .nil => some (true, [], none, [])
  | .c .nil0 => some (true, [], none, [])
  | .c (.ref id) => match get O id with
    | some (.row own true sz rows) => some (own, rows, some sz, [id])
    | _ => none
  | _ => none

/-- The second of two ways on: what was appended can still be seen. -/
@[irreducible] def VW (p : Prop) : Prop := p
/-- Another way on: what is appended stays of nobody's own. -/
@[irreducible] def NO (p : Prop) : Prop := p
theorem no {p : Prop} (h : p) : NO p := by unfold NO; exact h
theorem vw {p : Prop} (h : p) : VW p := by unfold VW; exact h

def opE (E : Nat → Option TI) (vl : Operand → Option AV) (op : Op) (σ : St) (K : AV → St → Prop) : Prop :=
  match op with
  | .store t x v => need (E t) fun ti => need (vl v) fun av => need (cellsOf av) fun ns => need (vl x) fun
    | .ptr id off => need (get σ.objs id) fun
      | .box cs => (ns.length = ti.size ∧ off + ns.length ≤ cs.length) ∧ K .junk { σ with objs := Vm.put σ.objs id (.box (cs.take off ++ ns ++ cs.drop (off + ns.length))) }
      | _ => False
    | .iptr id sz i off => need (get σ.objs id) fun
      | .row own app sz' rows => sz = sz' ∧ ∃ cs, rows[i]? = some cs ∧ (ns.length = ti.size ∧ off + ns.length ≤ cs.length) ∧ Nat.ble 1 ti.size = true ∧
        need (moveCs σ.objs own ns) fun tm => nodupB (id :: tm.2) = true ∧
          K .junk { σ with objs := Vm.put (dels σ.objs tm.2) id (.row own app sz (rows.set i (cs.take off ++ tm.1 ++ cs.drop (off + ns.length)))) }
      | _ => False
    | _ => False
  | .call { callee := .builtin .append, args, argTypes } => match args.toList, argTypes.toList with
    | [x, y], [t, t'] => t = t' ∧ need (E t) fun ti => match ti.k with
      | .sl e => need (E e) fun te => need (vl x) fun vx => need (vl y) fun vy => need (baseOf σ.objs vx) fun b => (b.2.2.1 = none ∨ b.2.2.1 = some te.size) ∧
        match vy with
        | .c (.ref j) => need (get σ.objs j) fun
          | .tmp sz crows => (need (moveCss σ.objs b.1 crows) fun tm => (nodupB (b.2.2.2 ++ j :: tm.2) = true ∧ sz = te.size) ∧
              ((b.2.1.length + tm.1.length) * te.bytes ≤ 140737488355328 ∧ b.2.1.length + tm.1.length ≤ 140737488355328) ∧
              (K (.c (.ref σ.next)) ⟨σ.env, (σ.next, .row b.1 true te.size (b.2.1 ++ tm.1)) :: dels σ.objs (b.2.2.2 ++ j :: tm.2), σ.next + 1⟩ ∨
                VW (match tm.2 with
                  | [k] => need (get σ.objs k) fun
                    | .row true _ _ rows => K (.c (.ref σ.next)) ⟨σ.env, (k, .vw rows) :: (σ.next, .row b.1 true te.size (b.2.1 ++ tm.1)) :: dels σ.objs (b.2.2.2 ++ j :: tm.2), σ.next + 1⟩
                    | _ => False
                  | _ => False))) ∨
              NO (need (moveCss σ.objs false crows) fun tm => (nodupB (b.2.2.2 ++ j :: tm.2) = true ∧ sz = te.size) ∧
                ((b.2.1.length + tm.1.length) * te.bytes ≤ 140737488355328 ∧ b.2.1.length + tm.1.length ≤ 140737488355328) ∧
                K (.c (.ref σ.next)) ⟨σ.env, (σ.next, .row false true te.size (b.2.1 ++ tm.1)) :: dels σ.objs (b.2.2.2 ++ j :: tm.2), σ.next + 1⟩)
          | .row _ _ sz rows => ∃ sc : Bool, (sc = true → ∀ r ∈ rows, ∀ x ∈ r, isScal x = true) ∧ (notIn j b.2.2.2 = true ∧ sz = te.size) ∧
              ((b.2.1.length + rows.length) * te.bytes ≤ 140737488355328 ∧ b.2.1.length + rows.length ≤ 140737488355328) ∧
              K (.c (.ref σ.next)) ⟨σ.env, (σ.next, .row (b.1 && sc) true te.size (b.2.1 ++ rows)) :: dels σ.objs b.2.2.2, σ.next + 1⟩
          | _ => False
        | _ => need (spread σ.objs vy) fun rows => ∃ sc : Bool, (sc = true → ∀ r ∈ rows, ∀ x ∈ r, isScal x = true) ∧ (∀ r ∈ rows, r.length = te.size) ∧
              ((b.2.1.length + rows.length) * te.bytes ≤ 140737488355328 ∧ b.2.1.length + rows.length ≤ 140737488355328) ∧
              K (.c (.ref σ.next)) ⟨σ.env, (σ.next, .row (b.1 && sc) true te.size (b.2.1 ++ rows)) :: dels σ.objs b.2.2.2, σ.next + 1⟩
      | _ => False
    | _, _ => False
  | _ => False

def GoesE (P : Program) (vl : Operand → Option AV) (o : Oper) (σ σ' : St) (av : AV) : Prop :=
  ∀ (w0 : Base) G w a (Kc : Act → World → Prop) (Q : Exit → Act → World → Prop), Mem w0 σ.objs G w → OpsRep vl o.op σ.objs G w a → (∀ j, G.A j → j < σ.next) →
    (∀ G' v w', Mem w0 σ'.objs G' w' → Pres σ.objs G w σ'.objs G' w' → av.rep σ'.objs G' w' v → (∀ j, G'.A j → j < σ'.next) → Kc (a.put o.dst v) w') → o.wp P a w Kc Q

/-! ### The ghost of a step that changes or lays one object and takes others in -/
def Gh.set (G : Gh) (m : Nat) (v : Value) (F : List Nat) : Gh where
  A := fun j => G.A j ∨ j = m
  φ := fun j => if j = m then v else G.φ j
  Φ := fun j => if j = m then F else G.Φ j
  h := fun j => if j = m then hd v else G.h j
  b := G.b
  pin := G.pin

section
variable {P : Program} {E : Nat → Option TI} {O O' : List (Nat × Ob)} {G : Gh} {w w' : World} {w0 : Base}

theorem Mem.move (hM : Mem w0 O G w) (m : Nat) (v : Value) (F : List Nat) (S : List Nat)
    (hO : ∀ j, j ≠ m → j ∉ S → get O' j = get O j) (hOS : ∀ j, j ≠ m → j ∈ S → get O' j = none)
    (hm : G.A m → v = G.φ m) (hos : w'.os = w.os) (htape : w'.tape = w.tape) (hout : w'.output = w.output) (hsize : w.heap.size ≤ w'.heap.size)
    (hheap : ∀ b, b < w.heap.size → (∀ i, Lv O G i → (i ∈ S ∨ i = m) → b ∉ G.h i) → w'.heap[b]? = w.heap[b]?)
    (hF : F.Nodup) (hFlo : ∀ b ∈ F, ((w.heap.size ≤ b) ∨ ∃ i, Lv O G i ∧ (i ∈ S ∨ i = m) ∧ b ∈ G.Φ i) ∧ ∃ arr e, w'.heap[b]? = some (.cells arr e (0, 0)))
    (hh : ∀ b ∈ hd v, b ∈ F ∧ (w.heap.size ≤ b ∨ ∃ i, Lv O G i ∧ b ∈ G.h i))
    (hr : ∀ o, get O' m = some o → Pres O G w O' (G.set m v F) w' → o.rep O' (G.set m v F) w' m) :
    Mem w0 O' (G.set m v F) w' ∧ Pres O G w O' (G.set m v F) w' := by
  refine Mem.step hM (fun j => Lv O G j ∧ j ∉ S ∧ j ≠ m) (fun j => j = m) (fun id h => ⟨.inl h, ?_⟩) ⟨rfl, rfl⟩ (fun id h => ⟨h.1, hO id h.2.2 h.2.1, ?_⟩) (fun id h => ?_)
    hos htape hout hsize (fun b hb hn => hheap b hb (fun i hi hs => hn i hi (fun hk => ?_))) (fun id hx => ?_) (fun i j hi hj hne => ?_) (fun id hx b hb => ?_) (fun id hx b hb => ?_) (fun id o hx _ hg p => ?_)
  · by_cases e : id = m
    · subst e; simp only [Gh.set, if_pos]; exact hm h
    · simp only [Gh.set, if_neg e]
  · simp only [Gh.set, if_neg h.2.2, and_self]
  · by_cases e : id = m
    · exact .inr e
    · by_cases hs : id ∈ S
      · obtain ⟨_, o, ho⟩ := h
        rw [hOS id e hs] at ho
        cases ho
      · obtain ⟨ha, o, ho⟩ := h
        rw [hO id e hs] at ho
        rcases ha with ha | ha
        · exact .inl ⟨⟨ha, o, ho⟩, hs, e⟩
        · exact absurd ha e
  · rcases hs with hs | hs
    · exact hk.2.1 hs
    · exact hk.2.2 hs
  · subst hx; simp only [Gh.set, if_pos]; exact hF
  · exact absurd (hi.trans hj.symm) hne
  · subst hx
    simp only [Gh.set, if_pos] at hb
    obtain ⟨h1, h2⟩ := hFlo b hb
    refine ⟨h1.imp (fun h => h) (fun ⟨i, hi, hs, hbi⟩ => ⟨i, hi, fun hk => ?_, hbi⟩), h2⟩
    rcases hs with hs | hs
    · exact hk.2.1 hs
    · exact hk.2.2 hs
  · subst hx
    simp only [Gh.set, if_pos] at hb ⊢
    exact hh b hb
  · subst hx
    exact hr o hg p

/-! ### Rows and cells taken apart -/
theorem repCells_split : ∀ {xs : List T} {vs : List Value} {F : List Nat} (off len : Nat), repCells w xs vs F → ∃ F1 F2 F3, F = F1 ++ F2 ++ F3 ∧ repCells w (xs.take off) (vs.take off) F1 ∧
    repCells w ((xs.drop off).take len) ((vs.drop off).take len) F2 ∧ repCells w (xs.drop (off + len)) (vs.drop (off + len)) F3 := by
  have cut : ∀ {xs : List T} {vs : List Value} {F : List Nat} (n : Nat), repCells w xs vs F → ∃ F1 F2, F = F1 ++ F2 ∧ repCells w (xs.take n) (vs.take n) F1 ∧ repCells w (xs.drop n) (vs.drop n) F2 := by
    intro xs
    induction xs with
    | nil => intro vs F n h; simp only [repCells] at h; obtain ⟨rfl, rfl⟩ := h; exact ⟨[], [], rfl, by simp [repCells], by simp [repCells]⟩
    | cons x xs ih =>
      intro vs F n h
      cases n with
      | zero => exact ⟨[], F, rfl, by simp [repCells], by simpa using h⟩
      | succ n =>
        simp only [repCells] at h
        obtain ⟨v, cs', F1, F2, rfl, rfl, h3, h4⟩ := h
        obtain ⟨F3, F4, rfl, h5, h6⟩ := ih n h4
        exact ⟨F1 ++ F3, F4, by simp, by simp only [List.take_succ_cons, repCells]; exact ⟨v, _, F1, F3, rfl, rfl, h3, h5⟩, by simpa using h6⟩
  intro xs vs F off len h
  obtain ⟨F1, F4, rfl, h1, h2⟩ := cut off h
  obtain ⟨F2, F3, rfl, h3, h4⟩ := cut len h2
  rw [List.drop_drop, List.drop_drop] at h4
  exact ⟨F1, F2, F3, by simp, h1, h3, h4⟩

theorem repRows_set : ∀ {rs : List (List T)} {css : List (List Value)} {F : List Nat} {i : Nat} {r : List T}, repRows w rs css F → rs[i]? = some r →
    ∃ FA Fi FB vs, F = FA ++ Fi ++ FB ∧ css[i]? = some vs ∧ repCells w r vs Fi ∧ ∀ (r' : List T) (vs' : List Value) (Fi' : List Nat) (w' : World), repCells w' r' vs' Fi' → (∀ b ∈ FA ++ FB, w'.heap[b]? = w.heap[b]?) →
      repRows w' (rs.set i r') (css.set i vs') (FA ++ Fi' ++ FB)
  | [], css, F, i, r, h, hi => by simp at hi
  | r0 :: rs, css, F, i, r, h, hi => by
    simp only [repRows] at h
    obtain ⟨cs, css', F1, F2, rfl, rfl, h3, h4⟩ := h
    cases i with
    | zero =>
      simp at hi
      subst hi
      refine ⟨[], F1, F2, cs, by simp, by simp, h3, fun r' vs' Fi' w' hr hk => ?_⟩
      simp only [List.set_cons_zero, repRows, List.nil_append]
      exact ⟨vs', css', Fi', F2, rfl, rfl, hr, repRows_keep _ _ _ h4 (fun b hb => hk b (by simp [hb]))⟩
    | succ i =>
      obtain ⟨FA, Fi, FB, vs, rfl, h5, h6, h7⟩ := repRows_set h4 (by simpa using hi)
      refine ⟨F1 ++ FA, Fi, FB, vs, by simp, by simpa using h5, h6, fun r' vs' Fi' w' hr hk => ?_⟩
      simp only [List.set_cons_succ, repRows]
      exact ⟨cs, _, F1, FA ++ Fi' ++ FB, rfl, by simp, repCells_keep _ _ _ h3 (fun b hb => hk b (by simp [hb])), h7 r' vs' Fi' w' hr (fun b hb => hk b (by simp at hb ⊢; rcases hb with hb | hb <;> simp [hb]))⟩

/-! ### What moves -/
theorem moveC_rep (hM : Mem w0 O G w) {own : Bool} {x : C} {y : T} {ids : List Nat} {v : Value} (h : moveC O own x = some (y, ids)) (hr : x.rep O G w v) :
    ∃ F, y.rep w v F ∧ (∀ i ∈ ids, Lv O G i) ∧ (own = true → F.Nodup ∧ ∀ b ∈ F, ∃ i, i ∈ ids ∧ b ∈ G.Φ i) ∧
      (∀ b ∈ F, ∀ j, Lv O G j → j ∉ ids → b ∉ G.h j) := by
  cases x with
  | nil =>
    simp only [moveC, Option.some.injEq, Prod.mk.injEq] at h
    obtain ⟨rfl, rfl⟩ := h
    have hr' : v = .slice none 0 0 := hr
    subst hr'
    exact ⟨[], by simp only [T.rep]; exact ⟨none, 0, rfl, Nat.le_refl _, .inl ⟨trivial, trivial⟩⟩, by simp, fun _ => by simp, by simp⟩
  | nil0 => simp [moveC] at h
  | anc x => simp [moveC] at h
  | t x =>
    simp only [moveC] at h
    cases hb : (!own || isScal x) with
    | false => simp [hb] at h
    | true =>
      simp only [hb, cond_true, Option.some.injEq, Prod.mk.injEq] at h
      obtain ⟨rfl, rfl⟩ := h
      obtain ⟨F, h1, h2⟩ := hr
      refine ⟨F, h1, by simp, fun ho => ?_, fun b hbb j hj _ => h2 j hj b hbb⟩
      subst ho
      simp only [Bool.not_true, Bool.false_or] at hb
      have : F = [] := by cases x <;> simp [isScal] at hb <;> exact h1.2
      subst this
      simp
  | ref id =>
    simp only [moveC] at h
    split at h
    · rename_i o app sz rows hg
      cases hb : (!own || o) with
      | false => simp [hb] at h
      | true =>
        simp only [hb, cond_true, Option.some.injEq, Prod.mk.injEq] at h
        obtain ⟨rfl, rfl⟩ := h
        obtain ⟨h1, h2, _⟩ := hr
        subst h2
        have hob := hM.obs id _ h1 hg
        obtain ⟨css, F', h3, h4, h5, h6⟩ := hob
        have hweak : RowWeak w (G.φ id) rows.length sz css := by
          cases app with
          | true => simp only [if_true] at h5; exact h5.1.weak h4
          | false => simp only [Bool.false_eq_true, if_false] at h5; exact h5.1
        obtain ⟨F, h7, h8'⟩ := hweak.rep h3 h4
        have h8 : F = G.h id ++ F' ∨ F = [] := by
          have hh : G.h id = hd (G.φ id) ∨ (rows = [] ∧ G.h id = []) := by
            cases app with
            | true => simp only [if_true] at h5; exact .inl h5.2
            | false => simp only [Bool.false_eq_true, if_false] at h5; exact h5.2
          rcases hh with hh | ⟨hr0, hh⟩
          · rw [hh]; exact h8'
          · subst hr0
            simp only [T.rep] at h7
            obtain ⟨_, _, _, _, ⟨_, h9⟩ | ⟨_, _, _, _, h9, _⟩⟩ := h7
            · exact .inr h9
            · exact absurd rfl h9
        have hlv : Lv O G id := ⟨h1, _, hg⟩
        refine ⟨F, h7, by simpa using hlv, fun ho => ?_, fun b hbb j hj hne => ?_⟩
        · subst ho
          simp only [Bool.not_true, Bool.false_or] at hb
          subst hb
          simp only [if_true] at h6
          have hnd := hM.nodup id hlv
          rcases h8 with rfl | rfl
          · rw [← h6]; exact ⟨hnd, fun b hb => ⟨id, by simp, hb⟩⟩
          · simp
        · have hne' : j ≠ id := by simpa using hne
          rcases h8 with rfl | rfl
          · intro hbj
            rcases List.mem_append.1 hbb with hb1 | hb1
            · exact hM.disj id j hlv hj (fun e => hne' e.symm) b (hM.hds id hlv b hb1) (hM.hds j hj b hbj)
            · cases o with
              | true =>
                simp only [if_true] at h6
                exact hM.disj id j hlv hj (fun e => hne' e.symm) b (by rw [h6]; simp [hb1]) (hM.hds j hj b hbj)
              | false =>
                simp only [Bool.false_eq_true, if_false] at h6
                exact h6.2 j hj b hb1 hbj
          · simp at hbb
    · cases h
  | fn f ids => simp [moveC] at h
  | view id sz lo hi => simp [moveC] at h

theorem moveCs_rep (hM : Mem w0 O G w) {own : Bool} : ∀ {xs : List C} {ys : List T} {ids : List Nat} {vs : List Value}, moveCs O own xs = some (ys, ids) → repCs O G w xs vs → ids.Nodup →
    ∃ F, repCells w ys vs F ∧ (∀ i ∈ ids, Lv O G i) ∧ (own = true → F.Nodup ∧ ∀ b ∈ F, ∃ i, i ∈ ids ∧ b ∈ G.Φ i) ∧ (∀ b ∈ F, ∀ j, Lv O G j → j ∉ ids → b ∉ G.h j)
  | [], ys, ids, vs, h, hr, _ => by
    simp only [moveCs, Option.some.injEq, Prod.mk.injEq] at h
    obtain ⟨rfl, rfl⟩ := h
    exact ⟨[], by simp only [repCells]; exact ⟨hr, trivial⟩, by simp, fun _ => by simp, by simp⟩
  | x :: xs, ys, ids, vs, h, ⟨v, vs', hv, h2, h3⟩, hnd => by
    simp only [moveCs] at h
    split at h
    · rename_i y i ys' is e1 e2
      simp only [Option.some.injEq, Prod.mk.injEq] at h
      obtain ⟨rfl, rfl⟩ := h
      subst hv
      obtain ⟨hn1, hn2, hn3⟩ := List.nodup_append.1 hnd
      obtain ⟨F1, a1, a2, a3, a4⟩ := moveC_rep hM e1 h2
      obtain ⟨F2, b1, b2, b3, b4⟩ := moveCs_rep hM e2 h3 hn2
      refine ⟨F1 ++ F2, by simp only [repCells]; exact ⟨v, vs', F1, F2, rfl, rfl, a1, b1⟩, fun j hj => ?_, fun ho => ⟨?_, fun b hb => ?_⟩, fun b hb j hj hni => ?_⟩
      · rcases List.mem_append.1 hj with hj | hj
        · exact a2 j hj
        · exact b2 j hj
      · refine List.nodup_append.2 ⟨(a3 ho).1, (b3 ho).1, fun b hb b' hb' e => ?_⟩
        subst e
        obtain ⟨i1, hi1, hbi1⟩ := (a3 ho).2 b hb
        obtain ⟨i2, hi2, hbi2⟩ := (b3 ho).2 b hb'
        exact hM.disj i1 i2 (a2 i1 hi1) (b2 i2 hi2) (hn3 i1 hi1 i2 hi2) b hbi1 hbi2
      · rcases List.mem_append.1 hb with hb | hb
        · obtain ⟨i1, hi1, hbi1⟩ := (a3 ho).2 b hb
          exact ⟨i1, by simp [hi1], hbi1⟩
        · obtain ⟨i1, hi1, hbi1⟩ := (b3 ho).2 b hb
          exact ⟨i1, by simp [hi1], hbi1⟩
      · simp only [List.mem_append, not_or] at hni
        rcases List.mem_append.1 hb with hb | hb
        · exact a4 b hb j hj hni.1
        · exact b4 b hb j hj hni.2
    · cases h

theorem moveCss_rep (hM : Mem w0 O G w) {own : Bool} : ∀ {xs : List (List C)} {ys : List (List T)} {ids : List Nat} {vs : List (List Value)}, moveCss O own xs = some (ys, ids) → repCss O G w xs vs → ids.Nodup →
    ∃ F, repRows w ys vs F ∧ (∀ i ∈ ids, Lv O G i) ∧ (own = true → F.Nodup ∧ ∀ b ∈ F, ∃ i, i ∈ ids ∧ b ∈ G.Φ i) ∧ (∀ b ∈ F, ∀ j, Lv O G j → j ∉ ids → b ∉ G.h j)
  | [], ys, ids, vs, h, hr, _ => by
    simp only [moveCss, Option.some.injEq, Prod.mk.injEq] at h
    obtain ⟨rfl, rfl⟩ := h
    exact ⟨[], by simp only [repRows]; exact ⟨hr, trivial⟩, by simp, fun _ => by simp, by simp⟩
  | x :: xs, ys, ids, vs, h, ⟨v, vs', hv, h2, h3⟩, hnd => by
    simp only [moveCss] at h
    split at h
    · rename_i y i ys' is e1 e2
      simp only [Option.some.injEq, Prod.mk.injEq] at h
      obtain ⟨rfl, rfl⟩ := h
      subst hv
      obtain ⟨hn1, hn2, hn3⟩ := List.nodup_append.1 hnd
      obtain ⟨F1, a1, a2, a3, a4⟩ := moveCs_rep hM e1 h2 hn1
      obtain ⟨F2, b1, b2, b3, b4⟩ := moveCss_rep hM e2 h3 hn2
      refine ⟨F1 ++ F2, by simp only [repRows]; exact ⟨v, vs', F1, F2, rfl, rfl, a1, b1⟩, fun j hj => ?_, fun ho => ⟨?_, fun b hb => ?_⟩, fun b hb j hj hni => ?_⟩
      · rcases List.mem_append.1 hj with hj | hj
        · exact a2 j hj
        · exact b2 j hj
      · refine List.nodup_append.2 ⟨(a3 ho).1, (b3 ho).1, fun b hb b' hb' e => ?_⟩
        subst e
        obtain ⟨i1, hi1, hbi1⟩ := (a3 ho).2 b hb
        obtain ⟨i2, hi2, hbi2⟩ := (b3 ho).2 b hb'
        exact hM.disj i1 i2 (a2 i1 hi1) (b2 i2 hi2) (hn3 i1 hi1 i2 hi2) b hbi1 hbi2
      · rcases List.mem_append.1 hb with hb | hb
        · obtain ⟨i1, hi1, hbi1⟩ := (a3 ho).2 b hb
          exact ⟨i1, by simp [hi1], hbi1⟩
        · obtain ⟨i1, hi1, hbi1⟩ := (b3 ho).2 b hb
          exact ⟨i1, by simp [hi1], hbi1⟩
      · simp only [List.mem_append, not_or] at hni
        rcases List.mem_append.1 hb with hb | hb
        · exact a4 b hb j hj hni.1
        · exact b4 b hb j hj hni.2
    · cases h
theorem moveCss_length {own : Bool} : ∀ {xs : List (List C)} {ys : List (List T)} {ids : List Nat}, moveCss O own xs = some (ys, ids) → ys.length = xs.length
  | [], ys, ids, h => by simp only [moveCss, Option.some.injEq, Prod.mk.injEq] at h; simp [← h.1]
  | x :: xs, ys, ids, h => by
    simp only [moveCss] at h
    split at h
    · rename_i y i ys' is e1 e2
      simp only [Option.some.injEq, Prod.mk.injEq] at h
      simp [← h.1, moveCss_length e2]
    · cases h
end
end Go.Vm
