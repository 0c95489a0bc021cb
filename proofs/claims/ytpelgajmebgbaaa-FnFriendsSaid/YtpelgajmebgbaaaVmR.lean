/-
  A region whose order is drawn: the facts of its operations, off the evaluation in the order of the text.
  Conditions: the table of types fits the program ('TOk').
-/
import Derived.Test.YtpelgajmebgbaaaVmQ
namespace Go.Vm
open Go.RowKit

section
variable {P : Program} {E : Nat → Option TI} {nt : Nat} {w0 : Base} {ops : Array Oper}

/-- The slots that an operation looks at read as the environment has them. -/
def Slots (nt : Nat) (ops : Array Oper) (o : Oper) (env : List (Nat × AV)) (O : List (Nat × Ob)) (G : Gh) (w : World) (a : Act) : Prop :=
  a.tmps.size = nt ∧ ∀ k ∈ o.looksAt ops, ∀ u, get env k = some u → k < nt ∧ u.rep O G w (a.tmps.getD k undef)

theorem Slots.opsRep {o : Oper} {env : List (Nat × AV)} {O : List (Nat × Ob)} {G : Gh} {w : World} {a : Act} (h : Slots nt ops o env O G w a) : OpsRep (val env) o.op O G w a := by
  intro x hx v hv
  cases x with
  | tmp t =>
    simp only [val] at hv
    split at hv
    · rename_i u hu
      injection hv with hv
      subst hv
      exact strip_rep (h.2 t (by unfold Oper.looksAt; exact List.mem_append_left _ (List.mem_filterMap.2 ⟨.tmp t, by simpa using hx, rfl⟩)) u hu).2
    · cases hv
  | const c => exact constAV_rep hv
  | global g => cases hv
  | func f =>
    simp only [val, Option.some.injEq] at hv
    subst hv
    exact ⟨rfl, by simp⟩

def GoA (P : Program) (nt : Nat) (ops : Array Oper) (i : Nat) (o : Oper) (σ : St) (v : AV) : Prop :=
  ∀ O G w a (Kc : Act → World → Prop) (Q : Exit → Act → World → Prop), Slots nt ops o σ.env O G w a → (∀ u, v.rep O G w u → Kc (a.put o.dst u) w) → wpOp P ops Q i Kc a w
def GoB (P : Program) (nt : Nat) (ops : Array Oper) (i : Nat) (o : Oper) (σ : St) (v : AV) (σ' : St) : Prop :=
  ∀ (w0 : Base) O G w a (Kc : Act → World → Prop) (Q : Exit → Act → World → Prop), (∀ id ob, get σ'.objs id = some ob → get O id = some ob) → Mem w0 O G w → Slots nt ops o σ.env O G w a →
    (∀ j, σ.next ≤ j → j < σ'.next → ¬ G.A j) →
    (∀ G' u w', Mem w0 O G' w' → Pres O G w O G' w' → v.rep O G' w' u → (∀ j, G'.A j → G.A j ∨ (σ.next ≤ j ∧ j < σ'.next)) → Kc (a.put o.dst u) w') → wpOp P ops Q i Kc a w
def GoE (P : Program) (nt : Nat) (ops : Array Oper) (i : Nat) (o : Oper) (σ : St) (v : AV) (σ' : St) : Prop :=
  ∀ (w0 : Base) G w a (Kc : Act → World → Prop) (Q : Exit → Act → World → Prop), Mem w0 σ.objs G w → Slots nt ops o σ.env σ.objs G w a → (∀ j, G.A j → j < σ.next) →
    (∀ G' u w', Mem w0 σ'.objs G' w' → Pres σ.objs G w σ'.objs G' w' → v.rep σ'.objs G' w' u → (∀ j, G'.A j → j < σ'.next) → Kc (a.put o.dst u) w') → wpOp P ops Q i Kc a w

structure Fact (P : Program) (nt : Nat) (ops : Array Oper) (i : Nat) (o : Oper) (σ : St) (v : AV) (σ' : St) : Prop where
  op : ops[i]? = some o
  dst : ∀ d, o.dst = some d → d < nt
  next : σ.next ≤ σ'.next
  wf : σ'.wf
  env : ∀ k u, get σ'.env k = some u → (o.dst = some k ∧ u = v) ∨ (o.dst ≠ some k ∧ get σ.env k = some u)
  ext : clsO ops o ≠ 2 → ∀ id, id < σ.next → get σ'.objs id = get σ.objs id
  a : clsO ops o = 0 → σ'.objs = σ.objs ∧ σ'.next = σ.next ∧ GoA P nt ops i o σ v
  b : clsO ops o = 1 → GoB P nt ops i o σ v σ'
  e : clsO ops o = 2 → GoE P nt ops i o σ v σ'

theorem cls_le (op : Op) : cls op = 0 ∨ cls op = 1 ∨ cls op = 2 := by
  cases op with
  | call c =>
    obtain ⟨cal, args, argTypes⟩ := c
    cases cal with
    | builtin b => cases b <;> simp [cls]
    | _ => simp [cls]
  | _ => simp [cls]

/-- What one operation's evaluation says, by its class. -/
def Facts (P : Program) (o : Oper) (σ : St) (K : AV → St → Prop) : Prop :=
  ∃ av σ', K av σ' ∧ σ'.env = σ.env ∧ σ.next ≤ σ'.next ∧ σ'.wf ∧ (cls o.op ≠ 2 → ∀ id, id < σ.next → get σ'.objs id = get σ.objs id) ∧
    (cls o.op = 0 → σ' = σ ∧ Gives P (val σ.env) o av) ∧ (cls o.op = 1 → GoesB P (val σ.env) o σ σ' av) ∧ (cls o.op = 2 → GoesE P (val σ.env) o σ σ' av)

theorem clsO_le (ops : Array Oper) (o : Oper) : clsO ops o = 0 ∨ clsO ops o = 1 ∨ clsO ops o = 2 := by
  unfold clsO
  split
  · exact .inr (.inl rfl)
  · exact cls_le o.op

theorem evOp_fact (hE : TOk P E) {o : Oper} {σ : St} (hw : σ.wf) {K : AV → St → Prop} (h : evOp P E false o.op σ K) : Facts P o σ K := by
  have caseA : cls o.op = 0 → opA E (val σ.env) o.op (fun v => K v σ) → Facts P o σ K := fun hc h => by
    obtain ⟨av, hk, hg⟩ := opA_sound hE h
    exact ⟨av, σ, hk, rfl, Nat.le_refl _, hw, fun _ _ _ => rfl, fun _ => ⟨rfl, hg⟩, fun h => by omega, fun h => by omega⟩
  have caseB : cls o.op = 1 → opB P E (val σ.env) o.op σ K → Facts P o σ K := fun hc h => by
    obtain ⟨av, σ', hk, hext, hwf, hg⟩ := opB_sound hE hw h
    exact ⟨av, σ', hk, hext.env, hext.next, hwf, fun _ => hext.objs, fun h => by omega, fun _ => hg, fun h => by omega⟩
  have caseE : cls o.op = 2 → opE E (val σ.env) o.op σ K → Facts P o σ K := fun hc h => by
    obtain ⟨av, σ', hk, henv, hnext, hwf, hg⟩ := opE_sound hE hw h
    exact ⟨av, σ', hk, henv, hnext, hwf, fun h => by omega, fun h => by omega, fun h => by omega, fun _ => hg⟩
  obtain ⟨dst, op, type, pos, after, guard⟩ := o
  simp only at h caseA caseB caseE ⊢
  cases op with
  | store t x v => exact caseE rfl h
  | alloc t => exact caseB rfl h
  | box t x => exact caseB rfl h
  | build t ps => exact caseB rfl h
  | buildSlice t n ps => exact caseB rfl h
  | load t x => exact caseB rfl h
  | makeSlice t l c => exact caseB rfl h
  | indexAddr t x i => exact caseB rfl h
  | slice t x l hh m => exact caseB rfl h
  | convert s d x => exact caseB rfl h
  | call c =>
    obtain ⟨cal, args, argTypes⟩ := c
    cases cal with
    | builtin b => cases b <;> first | exact caseE rfl h | exact caseB rfl h | exact caseA rfl h
    | invoke r m => exact caseA rfl h
    | value f =>
      rcases h with h | ⟨hf, _⟩
      · exact caseB rfl h
      · cases hf
  | _ => exact caseA rfl h

/-- The same, in its region. -/
def FactsO (P : Program) (ops : Array Oper) (o : Oper) (σ : St) (K : AV → St → Prop) : Prop :=
  ∃ av σ', K av σ' ∧ σ'.env = σ.env ∧ σ.next ≤ σ'.next ∧ σ'.wf ∧ (clsO ops o ≠ 2 → ∀ id, id < σ.next → get σ'.objs id = get σ.objs id) ∧
    (clsO ops o = 0 → σ' = σ ∧ Gives P (val σ.env) o av) ∧ (clsO ops o = 1 → GoesB P (val σ.env) o σ σ' av) ∧ (clsO ops o = 2 → GoesE P (val σ.env) o σ σ' av)

theorem evOpF_fact (hE : TOk P E) {ops : Array Oper} {o : Oper} {σ : St} (hw : σ.wf) {K : AV → St → Prop} (h : evOpF P E false (frO false ops o) o.op σ K) : FactsO P ops o σ K := by
  unfold FactsO clsO
  cases hf : frO false ops o with
  | true =>
    rw [hf] at h
    obtain ⟨av, σ', hk, hext, hwf, hg⟩ := opF_sound hE hw h
    exact ⟨av, σ', hk, hext.env, hext.next, hwf, fun _ => hext.objs, (fun h => by cases h), fun _ => hg, (fun h => by cases h)⟩
  | false =>
    rw [hf] at h
    exact evOp_fact hE hw h

theorem lit_get {σ : St} {d : Nat} {b c : Bool} (hb : get σ.env d = some (.c (.t (.bool b)))) (e : b = c) {k : Nat} {u : AV} (h : get (σ.put (some d) (vbool c)).env k = some u) : get σ.env k = some u := by
  subst e
  by_cases e : k = d
  · subst e
    have : some (vbool b) = some u := by rw [← h]; exact (get_cons_same _ _ _).symm
    rw [← this]; exact hb
  · rw [← h]; exact (get_cons_other _ _ _ _ e).symm

/-- The environment behind an operation. -/
theorem put_env {σ τ σ' : St} {o : Oper} {v : AV} (hτ : ∀ k u, get τ.env k = some u → get σ.env k = some u) (he : σ'.env = τ.env) : ∀ k u, get (σ'.put o.dst v).env k = some u → (o.dst = some k ∧ u = v) ∨ (o.dst ≠ some k ∧ get σ.env k = some u) := by
  intro k u h
  cases hd : o.dst with
  | none =>
    rw [hd] at h
    exact .inr ⟨by simp, hτ k u (by rw [← he]; exact h)⟩
  | some d =>
    rw [hd] at h
    by_cases e : k = d
    · subst e
      have : some v = some u := by rw [← h]; exact (get_cons_same _ _ _).symm
      injection this with this
      exact .inl ⟨rfl, this.symm⟩
    · refine .inr ⟨fun e' => by injection e' with e'; exact e e'.symm, hτ k u ?_⟩
      rw [← he, ← h]; exact (get_cons_other _ _ _ _ e).symm

theorem put_st (σ : St) (d : Option Nat) (v : AV) : (σ.put d v).objs = σ.objs ∧ (σ.put d v).next = σ.next ∧ (σ.wf → (σ.put d v).wf) := by
  cases d <;> exact ⟨rfl, rfl, fun h id o ho => h id o ho⟩

theorem fact_run (hE : TOk P E) {i : Nat} {o : Oper} (hi : ops[i]? = some o) {σ τ : St} (hw : σ.wf) (hd : dstOk nt o.dst = true) (hτ : ∀ k u, get τ.env k = some u → get σ.env k = some u) (ho : τ.objs = σ.objs) (hn : τ.next = σ.next)
    (hwant : ∀ O G w a, Slots nt ops o σ.env O G w a → Region.wanted o (yielded ops a.tmps) = true) {K : AV → St → Prop} (h : evOpF P E false (frO false ops o) o.op τ K) : ∃ av σ', K av σ' ∧ Fact P nt ops i o σ av (σ'.put o.dst av) := by
  have hwτ : τ.wf := fun id x hx => by rw [hn]; exact hw id x (by rw [← ho]; exact hx)
  obtain ⟨av, σ', hk, henv, hnext, hwf, hext, hA, hB, hE'⟩ := evOpF_fact hE hwτ h
  obtain ⟨p1, p2, p3⟩ := put_st σ' o.dst av
  have hsl : ∀ {O G w a}, Slots nt ops o σ.env O G w a → OpsRep (val τ.env) o.op O G w a := fun {O G w a} hs =>
    Slots.opsRep (ops := ops) (nt := nt) ⟨hs.1, fun k hk u hu => hs.2 k hk u (hτ k u hu)⟩
  refine ⟨av, σ', hk, hi, fun d e => ?_, by rw [p2, ← hn]; exact hnext, p3 hwf, put_env hτ henv, fun hc id hid => ?_, fun hc => ?_, fun hc => ?_, fun hc => ?_⟩
  · rw [e] at hd
    have : d + 1 ≤ nt := by simpa [dstOk, Nat.blt] using hd
    exact this
  · rw [p1, hext hc id (by rw [hn]; exact hid), ho]
  · obtain ⟨rfl, hg⟩ := hA hc
    refine ⟨by rw [p1, ho], by rw [p2, hn], fun O G w a Kc Q hs hK => ?_⟩
    unfold wpOp
    simp only [hi, hwant O G w a hs, if_true]
    obtain ⟨u, h1, h2⟩ := hg O G w a (hsl hs)
    exact .inl (wp_value h1 (hK u h2))
  · intro w0 O G w a Kc Q hsub hM hs hfr hK
    unfold wpOp
    simp only [hi, hwant O G w a hs, if_true]
    rw [p1] at hsub
    rw [p2] at hfr hK
    refine .inl (hB hc w0 O G w a Kc Q hsub hM (hsl hs) (fun j h1 h2 => hfr j (by rw [← hn]; exact h1) h2) (fun G' u w' a1 a2 a3 a4 => hK G' u w' a1 a2 a3 (fun j hj => ?_)))
    rcases a4 j hj with h | h
    · exact .inl h
    · exact .inr ⟨by rw [← hn]; exact h.1, h.2⟩
  · intro w0 G w a Kc Q hM hs hfr hK
    unfold wpOp
    simp only [hi, hwant _ G w a hs, if_true]
    rw [p1, p2] at hK
    rw [← ho] at hM hK hs
    exact .inl (hE' hc w0 G w a Kc Q hM (hsl (by rw [ho] at hs ⊢; exact hs)) (fun j hj => by rw [hn]; exact hfr j hj) hK)

theorem fact_skip {i : Nat} {o : Oper} (hi : ops[i]? = some o) {σ τ : St} (hw : σ.wf) (hd : dstOk nt o.dst = true) (hτ : ∀ k u, get τ.env k = some u → get σ.env k = some u) (ho : τ.objs = σ.objs) (hn : τ.next = σ.next)
    (hwant : ∀ O G w a, Slots nt ops o σ.env O G w a → Region.wanted o (yielded ops a.tmps) = false) : Fact P nt ops i o σ .junk (τ.put o.dst .junk) := by
  have hwτ : τ.wf := fun id x hx => by rw [hn]; exact hw id x (by rw [← ho]; exact hx)
  obtain ⟨p1, p2, p3⟩ := put_st τ o.dst .junk
  have run : ∀ {O G w a} {Kc : Act → World → Prop} {Q : Exit → Act → World → Prop}, Slots nt ops o σ.env O G w a → Kc (a.put o.dst undef) w → wpOp P ops Q i Kc a w := by
    intro O G w a Kc Q hs hk
    unfold wpOp
    simp only [hi, hwant O G w a hs, Bool.false_eq_true, if_false]
    exact hk
  refine ⟨hi, fun d e => ?_, by rw [p2, hn]; exact Nat.le_refl _, p3 hwτ, put_env hτ rfl, fun _ id _ => by rw [p1, ho], fun _ => ⟨by rw [p1, ho], by rw [p2, hn], fun O G w a Kc Q hs hK => run hs (hK _ (by simp only [AV.rep]))⟩, fun _ => ?_, fun _ => ?_⟩
  · rw [e] at hd
    have : d + 1 ≤ nt := by simpa [dstOk, Nat.blt] using hd
    exact this
  · exact fun w0 O G w a Kc Q _ hM hs _ hK => run hs (hK G _ w hM Pres.refl (by simp only [AV.rep]) (fun j hj => .inl hj))
  · intro w0 G w a Kc Q hM hs hfr hK
    rw [p1, p2, ho, hn] at hK
    exact run hs (hK G _ w hM Pres.refl (by simp only [AV.rep]) hfr)

theorem evOps_trace (hE : TOk P E) {K : St → Prop} : ∀ (l : List Oper) (p : Nat) (σ : St), (∀ i o, l[i]? = some o → ops[p + i]? = some o) → σ.wf → evOps P E nt false ops l K σ →
    ∃ (s : Nat → St) (av : Nat → AV), s p = σ ∧ (∀ i o, l[i]? = some o → Fact P nt ops (p + i) o (s (p + i)) (av (p + i)) (s (p + i + 1))) ∧ K (s (p + l.length))
  | [], p, σ, _, _, h => ⟨fun _ => σ, fun _ => .junk, rfl, by simp, h⟩
  | o :: rest, p, σ, hl, hw, h => by
    have hi : ops[p]? = some o := by simpa using hl 0 o (by simp)
    simp only [evOps, putK_eq] at h
    rcases scase_out h with ⟨hd, h⟩ | ⟨_, h⟩
    case inr => exact h.elim
    have next : ∀ {v : AV} {σ' : St}, Fact P nt ops p o σ v σ' → evOps P E nt false ops rest K σ' → ∃ (s : Nat → St) (av : Nat → AV), s p = σ ∧ (∀ i q, (o :: rest)[i]? = some q → Fact P nt ops (p + i) q (s (p + i)) (av (p + i)) (s (p + i + 1))) ∧ K (s (p + (o :: rest).length)) := by
      intro v σ' hf h
      obtain ⟨s, av, h1, h2, h3⟩ := evOps_trace hE rest (p + 1) σ' (fun i q hq => by
        have := hl (i + 1) q (by simpa using hq)
        rw [show p + 1 + i = p + (i + 1) by omega]; exact this) hf.wf h
      refine ⟨fun i => if i = p then σ else s i, fun i => if i = p then v else av i, by simp, fun i q hq => ?_, ?_⟩
      · cases i with
        | zero =>
          simp at hq
          subst hq
          simpa [h1] using hf
        | succ i =>
          have := h2 i q (by simpa using hq)
          rw [show p + 1 + i = p + (i + 1) by omega] at this
          have e1 : p + (i + 1) ≠ p := by omega
          have e2 : p + (i + 1) + 1 ≠ p := by omega
          simp only [e1, e2, if_false]
          exact this
      · have e1 : p + (rest.length + 1) ≠ p := by omega
        simp only [List.length_cons, e1, if_false]
        rw [show p + (rest.length + 1) = p + 1 + rest.length by omega]
        exact h3
    split at h
    · rename_i hg
      obtain ⟨av, σ', hk, hf⟩ := fact_run (nt := nt) hE hi hw hd (fun _ _ h => h) rfl rfl (fun O G w a _ => by simp [Region.wanted, hg]) h
      exact next hf hk
    · rename_i j want hg
      have h' := need_some h; clear h
      obtain ⟨d, ed, h⟩ := h'
      have hlook : d ∈ o.looksAt ops := by
        unfold Oper.looksAt
        refine List.mem_append_right _ ?_
        rw [hg]
        simp only [ed]
        simp
      have yld : ∀ {a : Act} v, a.tmps.size = nt → d < nt → a.tmps.getD d undef = v → yielded ops a.tmps j = (match v with | .bool b => some b | _ => none) := by
        intro a v hsz hdn hv
        have hdl : d < a.tmps.size := by rw [hsz]; exact hdn
        unfold yielded
        rw [ed]
        simp only [Option.bind_some]
        rw [Array.getElem?_eq_getElem hdl]
        have : a.tmps[d] = v := by rw [← hv]; simp [Array.getD, hdl]
        rw [this]
        cases v <;> rfl
      split at h
      · rename_i b hb
        have hy : ∀ O G w a, Slots nt ops o σ.env O G w a → yielded ops a.tmps j = some b := fun O G w a hs => by
          have := yld _ hs.1 (hs.2 d hlook _ hb).1 (bool_of (hs.2 d hlook _ hb).2)
          simpa using this
        cases want with
        | true =>
          simp only at h
          rcases bcase_out h with ⟨hbt, hz⟩ | ⟨hbf, hz⟩
          · obtain ⟨av, σ', hk, hf⟩ := fact_run (nt := nt) (τ := σ.put (some d) (vbool true)) hE hi hw hd (fun k u hu => lit_get hb hbt hu) rfl rfl (fun O G w a hs => by simp [Region.wanted, hg, hy O G w a hs, hbt]) hz
            exact next hf hk
          · exact next (fact_skip (nt := nt) (τ := σ.put (some d) (vbool false)) hi hw hd (fun k u hu => lit_get hb hbf hu) rfl rfl (fun O G w a hs => by simp [Region.wanted, hg, hy O G w a hs, hbf])) hz
        | false =>
          simp only at h
          rcases bcase_out h with ⟨hbt, hz⟩ | ⟨hbf, hz⟩
          · exact next (fact_skip (nt := nt) (τ := σ.put (some d) (vbool true)) hi hw hd (fun k u hu => lit_get hb hbt hu) rfl rfl (fun O G w a hs => by simp [Region.wanted, hg, hy O G w a hs, hbt])) hz
          · obtain ⟨av, σ', hk, hf⟩ := fact_run (nt := nt) (τ := σ.put (some d) (vbool false)) hE hi hw hd (fun k u hu => lit_get hb hbf hu) rfl rfl (fun O G w a hs => by simp [Region.wanted, hg, hy O G w a hs, hbf]) hz
            exact next hf hk
      · rename_i hb
        refine next (fact_skip (nt := nt) (τ := σ) hi hw hd (fun _ _ h => h) rfl rfl (fun O G w a hs => ?_)) h
        have hv := (hs.2 d hlook _ hb).2
        simp only [AV.rep] at hv
        have := yld _ hs.1 (hs.2 d hlook _ hb).1 hv
        simp [Region.wanted, hg, this, undef]
      · exact h.elim
end
end Go.Vm
