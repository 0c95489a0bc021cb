/-
  A region whose order is drawn: in whatever order its operations are laid, it ends as in the order of the text.
  A region whose order is drawn: the facts of its operations, off the evaluation in the order of the text.
  A region whose order is drawn: in whatever order its operations are laid, it ends as in the order of the text. The contract of a function, with no condition left.
  A drawn region that calls functions with a pointer to a box: in whatever order its operations are laid, it ends as in the order of the text. The contract of a function, with no condition left.
  Conditions: the table of types fits the program ('TOk').
-/
import Derived.Test.YtpipfobdfcnghaaVmP
import Derived.Orders
namespace Go.Vm
open Go.RowKit

/-! ### What the check says -/
inductive Reach (ops : Array Oper) : Nat → Nat → Prop
  | edge {i : Nat} {o : Oper} {e : Edge} : ops[i]? = some o → e ∈ o.after → Region.binds .any e = true → Reach ops i e.on
  | step {i k : Nat} {o : Oper} {e : Edge} : ops[i]? = some o → e ∈ o.after → Region.binds .any e = true → Reach ops e.on k → Reach ops i k

theorem memN_iff {d : Nat} : ∀ {l : List Nat}, memN d l = true ↔ d ∈ l
  | [] => by simp [memN]
  | x :: r => by
    cases h : Nat.beq x d with
    | true => have := Nat.eq_of_beq_eq_true h; subst this; simp [memN]
    | false =>
      have hne : d ≠ x := fun e => by subst e; simp at h
      simp [memN, h, memN_iff (l := r), hne]

theorem mask_bits {T : List Nat} {j : Nat} : ∀ {es : List Edge}, (mask T es).testBit j = true → ∃ e ∈ es, Region.binds .any e = true ∧ ∃ x, T[e.on]? = some x ∧ (x.testBit j = true ∨ j = e.on)
  | [], h => by simp [mask] at h
  | e :: r, h => by
    have rest : (mask T r).testBit j = true → ∃ e' ∈ e :: r, Region.binds .any e' = true ∧ ∃ x, T[e'.on]? = some x ∧ (x.testBit j = true ∨ j = e'.on) := fun h => by
      obtain ⟨e', h1, h2⟩ := mask_bits h
      exact ⟨e', by simp [h1], h2⟩
    cases hb : Region.binds .any e with
    | false => simp only [mask, hb, cond_false] at h; exact rest h
    | true =>
      simp only [mask, hb, cond_true] at h
      split at h
      · rename_i x hx
        rw [Nat.testBit_or, Nat.testBit_or, Bool.or_eq_true, Bool.or_eq_true] at h
        rcases h with h | h | h
        · exact rest h
        · exact ⟨e, by simp, hb, x, hx, .inl h⟩
        · refine ⟨e, by simp, hb, x, hx, .inr ?_⟩
          rw [Nat.shiftLeft_eq, Nat.one_mul, Nat.testBit_two_pow] at h
          simpa using Eq.symm (of_decide_eq_true h)
      · exact rest h

theorem masks_reach {ops : Array Oper} : ∀ (l : List Oper) (T : List Nat), (∀ i o, l[i]? = some o → ops[T.length + i]? = some o) → (∀ i x j, T[i]? = some x → x.testBit j = true → Reach ops i j) →
    ∀ i x j, (masks l T)[i]? = some x → x.testBit j = true → Reach ops i j
  | [], T, _, hT, i, x, j, h, hb => hT i x j h hb
  | o :: r, T, hl, hT, i, x, j, h, hb => by
    simp only [masks] at h
    refine masks_reach r (T ++ [mask T o.after.toList]) (fun k q hk => ?_) (fun k y m hk hm => ?_) i x j h hb
    · have := hl (k + 1) q (by simpa using hk)
      rw [List.length_append, List.length_singleton]
      rw [show T.length + 1 + k = T.length + (k + 1) by omega]
      exact this
    · rcases Nat.lt_or_ge k T.length with hlt | hge
      · rw [List.getElem?_append_left hlt] at hk
        exact hT k y m hk hm
      · rw [List.getElem?_append_right hge] at hk
        have hk0 : k - T.length = 0 := by
          have := (List.getElem?_eq_some_iff.1 hk).1
          simpa using this
        have hke : k = T.length := by omega
        subst hke
        simp at hk
        subst hk
        obtain ⟨e, h1, h2, z, h3, h4⟩ := mask_bits hm
        have ho : ops[T.length]? = some o := by simpa using hl 0 o (by simp)
        rcases h4 with h4 | rfl
        · exact .step ho (by simpa using h1) h2 (hT _ z m h3 h4)
        · exact .edge ho (by simpa using h1) h2

structure DrawOK (ops : Array Oper) : Prop where
  pair : ∀ (i j : Nat) (x y : Oper), j < i → ops[j]? = some x → ops[i]? = some y → (∀ d, x.dst = some d → y.dst ≠ some d) ∧ (conflict ops x y = true → Reach ops i j)
  self : ∀ (i : Nat) (y : Oper) (d : Nat), ops[i]? = some y → y.dst = some d → d ∉ y.looksAt ops
  back : ∀ (i : Nat) (y : Oper) (e : Edge), ops[i]? = some y → e ∈ y.after → Region.binds .any e = true → e.on < i

theorem pairsOK_spec {ops : Array Oper} {m : Nat} {y : Oper} : ∀ {l : List Oper} {j : Nat}, pairsOK ops m y j l = true → ∀ k x, l[k]? = some x → sameDst x.dst y.dst = false ∧ (conflict ops x y = true → m.testBit (j + k) = true)
  | [], j, _, k, x, h => by simp at h
  | z :: r, j, h, k, x, hk => by
    simp only [pairsOK, Bool.and_eq_true, Bool.or_eq_true, Bool.not_eq_true'] at h
    obtain ⟨⟨h1, h2⟩, h3⟩ := h
    cases k with
    | zero =>
      simp at hk
      subst hk
      exact ⟨h1, fun hc => by rcases h2 with h2 | h2 <;> simp_all⟩
    | succ k =>
      have := pairsOK_spec h3 k x (by simpa using hk)
      rw [show j + (k + 1) = j + 1 + k by omega]
      exact this

theorem drawOK_spec {ops : Array Oper} (h : drawOK ops = true) : DrawOK ops := by
  unfold drawOK at h
  have hreach := masks_reach (ops := ops) ops.toList [] (fun i o hi => by simpa using hi) (fun i x j hi => by simp at hi)
  generalize masks ops.toList [] = T at h hreach
  have key : ∀ (l pre : List Oper) (i : Nat), pre.length = i → pre ++ l = ops.toList → allOK ops T i pre l = true → ∀ k y, l[k]? = some y →
      (∃ m, T[i + k]? = some m ∧ ∀ j x, j < i + k → ops[j]? = some x → sameDst x.dst y.dst = false ∧ (conflict ops x y = true → m.testBit j = true)) ∧ dstIn y.dst (y.looksAt ops) = false ∧
        ∀ e ∈ y.after, Region.binds .any e = true → e.on < i + k := by
    intro l
    induction l with
    | nil => intro pre i _ _ _ k y hk; simp at hk
    | cons z r ih =>
      intro pre i hpl happ hok k y hk
      simp only [allOK, Bool.and_eq_true] at hok
      obtain ⟨⟨h1, h2, h3⟩, h4⟩ := hok
      cases k with
      | zero =>
        simp at hk
        subst hk
        refine ⟨?_, by simpa using h2, fun e he hb => ?_⟩
        · split at h1
          · rename_i m hm
            refine ⟨m, hm, fun j x hj hx => ?_⟩
            have hpj : pre[j]? = some x := by
              rw [← Array.getElem?_toList, ← happ, List.getElem?_append_left (by omega)] at hx
              exact hx
            simpa using pairsOK_spec h1 j x hpj
          · cases h1
        · have := List.all_eq_true.1 h3 e (by simpa using he)
          simp only [hb, Bool.not_true, Bool.false_or] at this
          have : e.on + 1 ≤ i := by simpa [Nat.blt] using this
          omega
      | succ k =>
        have := ih (pre ++ [z]) (i + 1) (by simp [hpl]) (by simpa using happ) h4 k y (by simpa using hk)
        rw [show i + (k + 1) = i + 1 + k by omega]
        exact this
  have k0 := fun k y hk => key ops.toList [] 0 rfl rfl h k y hk
  simp only [Nat.zero_add, Array.getElem?_toList] at k0
  refine ⟨fun i j x y hj hx hy => ?_, fun i y d hy hd => ?_, fun i y e hy he hb => (k0 i y hy).2.2 e he hb⟩
  · obtain ⟨m, hm, hall⟩ := (k0 i y hy).1
    obtain ⟨h1, h2⟩ := hall j x hj hx
    refine ⟨fun d hd hd' => ?_, fun hc => hreach i m j hm (h2 hc)⟩
    rw [hd, hd'] at h1
    simp [sameDst] at h1
  · have := (k0 i y hy).2.1
    rw [hd] at this
    simp only [dstIn] at this
    intro hmem
    rw [memN_iff.2 hmem] at this
    cases this
end Go.Vm

namespace Go.Vm
open Go.RowKit

section
variable {P : Program} {E : Nat → Option TI} {nt : Nat} {w0 : Base} {ops : Array Oper}

/-- The slots that an operation looks at read as the environment has them. -/
def Slots (nt : Nat) (ops : Array Oper) (o : Oper) (env : List (Nat × AV)) (O : List (Nat × Ob)) (G : Gh) (w : World) (a : Act) : Prop :=
  a.tmps.size = nt ∧ ∀ k ∈ o.looksAt ops, ∀ u, get env k = some u → (k < nt ∨ isFrm u = true) ∧ u.rep O G w (a.tmps.getD k undef)

theorem Slots.opsRep {o : Oper} {env : List (Nat × AV)} {O : List (Nat × Ob)} {G : Gh} {w : World} {a : Act} (h : Slots nt ops o env O G w a) : OpsRep (val env) o.op O G w a := by
  intro x hx v hv
  cases x with
  | tmp t =>
    simp only [val] at hv
    split at hv
    · rename_i u hu
      injection hv with hv
      subst hv
      exact strip_rep (h.2 t (by unfold Oper.looksAt; exact List.mem_append_left _ (List.mem_filterMap.2 ⟨.tmp t, by simpa using hx, rfl⟩)) u hu).2
    · cases hv
  | const c => exact constAV_rep hv
  | global g => cases hv
  | func f =>
    simp only [val, Option.some.injEq] at hv
    subst hv
    exact ⟨rfl, by simp⟩

def GoA (P : Program) (nt : Nat) (ops : Array Oper) (i : Nat) (o : Oper) (σ : St) (v : AV) : Prop :=
  ∀ O G w a (Kc : Act → World → Prop) (Q : Exit → Act → World → Prop), Slots nt ops o σ.env O G w a → (∀ u, v.rep O G w u → Kc (a.put o.dst u) w) → wpOp P ops Q i Kc a w
def GoB (P : Program) (nt : Nat) (ops : Array Oper) (i : Nat) (o : Oper) (σ : St) (v : AV) (σ' : St) : Prop :=
  ∀ (w0 : Base) O G w a (Kc : Act → World → Prop) (Q : Exit → Act → World → Prop), (∀ id ob, get σ'.objs id = some ob → get O id = some ob) → Mem w0 O G w → Slots nt ops o σ.env O G w a →
    (∀ j, σ.next ≤ j → j < σ'.next → ¬ G.A j) →
    (∀ G' u w', Mem w0 O G' w' → Pres O G w O G' w' → v.rep O G' w' u → (∀ j, G'.A j → G.A j ∨ (σ.next ≤ j ∧ j < σ'.next)) → Kc (a.put o.dst u) w') → wpOp P ops Q i Kc a w
def GoE (P : Program) (nt : Nat) (ops : Array Oper) (i : Nat) (o : Oper) (σ : St) (v : AV) (σ' : St) : Prop :=
  ∀ (w0 : Base) G w a (Kc : Act → World → Prop) (Q : Exit → Act → World → Prop), Mem w0 σ.objs G w → Slots nt ops o σ.env σ.objs G w a → (∀ j, G.A j → j < σ.next) →
    (∀ G' u w', Mem w0 σ'.objs G' w' → Pres σ.objs G w σ'.objs G' w' → v.rep σ'.objs G' w' u → (∀ j, G'.A j → j < σ'.next) → Kc (a.put o.dst u) w') → wpOp P ops Q i Kc a w

structure Fact (P : Program) (nt : Nat) (ops : Array Oper) (i : Nat) (o : Oper) (σ : St) (v : AV) (σ' : St) : Prop where
  op : ops[i]? = some o
  dst : ∀ d, o.dst = some d → d < nt
  next : σ.next ≤ σ'.next
  wf : σ'.wf
  env : ∀ k u, get σ'.env k = some u → (o.dst = some k ∧ u = v) ∨ (o.dst ≠ some k ∧ get σ.env k = some u)
  ext : clsO ops o ≠ 2 → ∀ id, id < σ.next → get σ'.objs id = get σ.objs id
  a : clsO ops o = 0 → σ'.objs = σ.objs ∧ σ'.next = σ.next ∧ GoA P nt ops i o σ v
  b : clsO ops o = 1 → GoB P nt ops i o σ v σ'
  e : clsO ops o = 2 → GoE P nt ops i o σ v σ'

theorem cls_le (op : Op) : cls op = 0 ∨ cls op = 1 ∨ cls op = 2 := by
  cases op with
  | call c =>
    obtain ⟨cal, args, argTypes⟩ := c
    cases cal with
    | builtin b => cases b <;> simp [cls]
    | _ => simp [cls]
  | _ => simp [cls]

/-- What one operation's evaluation says, by its class. -/
def Facts (P : Program) (o : Oper) (σ : St) (K : AV → St → Prop) : Prop :=
  ∃ av σ', K av σ' ∧ σ'.env = σ.env ∧ σ.next ≤ σ'.next ∧ σ'.wf ∧ (cls o.op ≠ 2 → ∀ id, id < σ.next → get σ'.objs id = get σ.objs id) ∧
    (cls o.op = 0 → σ' = σ ∧ Gives P (val σ.env) o av) ∧ (cls o.op = 1 → GoesB P (val σ.env) o σ σ' av) ∧ (cls o.op = 2 → GoesE P (val σ.env) o σ σ' av)

theorem clsO_le (ops : Array Oper) (o : Oper) : clsO ops o = 0 ∨ clsO ops o = 1 ∨ clsO ops o = 2 := by
  unfold clsO
  split
  · exact .inr (.inl rfl)
  · exact cls_le o.op

theorem evOp_fact (hE : TOk P E) {o : Oper} {σ : St} (hw : σ.wf) {K : AV → St → Prop} (h : evOp P E false o.op σ K) : Facts P o σ K := by
  have caseA : cls o.op = 0 → opA E (val σ.env) o.op (fun v => K v σ) → Facts P o σ K := fun hc h => by
    obtain ⟨av, hk, hg⟩ := opA_sound hE h
    exact ⟨av, σ, hk, rfl, Nat.le_refl _, hw, fun _ _ _ => rfl, fun _ => ⟨rfl, hg⟩, fun h => by omega, fun h => by omega⟩
  have caseB : cls o.op = 1 → opB P E (val σ.env) o.op σ K → Facts P o σ K := fun hc h => by
    obtain ⟨av, σ', hk, hext, hwf, hg⟩ := opB_sound hE hw h
    exact ⟨av, σ', hk, hext.env, hext.next, hwf, fun _ => hext.objs, fun h => by omega, fun _ => hg, fun h => by omega⟩
  have caseE : cls o.op = 2 → opE E (val σ.env) o.op σ K → Facts P o σ K := fun hc h => by
    obtain ⟨av, σ', hk, henv, hnext, hwf, hg⟩ := opE_sound hE hw h
    exact ⟨av, σ', hk, henv, hnext, hwf, fun h => by omega, fun h => by omega, fun h => by omega, fun _ => hg⟩
  obtain ⟨dst, op, type, pos, after, guard⟩ := o
  simp only at h caseA caseB caseE ⊢
  cases op with
  | store t x v => exact caseE rfl h
  | alloc t => exact caseB rfl h
  | box t x => exact caseB rfl h
  | build t ps => exact caseB rfl h
  | buildSlice t n ps => exact caseB rfl h
  | load t x => exact caseB rfl h
  | makeSlice t l c => exact caseB rfl h
  | indexAddr t x i => exact caseB rfl h
  | slice t x l hh m => exact caseB rfl h
  | convert s d x => exact caseB rfl h
  | call c =>
    obtain ⟨cal, args, argTypes⟩ := c
    cases cal with
    | builtin b => cases b <;> first | exact caseE rfl h | exact caseB rfl h | exact caseA rfl h
    | invoke r m => exact caseA rfl h
    | value f =>
      rcases h with h | ⟨hf, _⟩
      · exact caseB rfl h
      · cases hf
  | _ => exact caseA rfl h

/-- The same, in its region. -/
def FactsO (P : Program) (ops : Array Oper) (o : Oper) (σ : St) (K : AV → St → Prop) : Prop :=
  ∃ av σ', K av σ' ∧ σ'.env = σ.env ∧ σ.next ≤ σ'.next ∧ σ'.wf ∧ (clsO ops o ≠ 2 → ∀ id, id < σ.next → get σ'.objs id = get σ.objs id) ∧
    (clsO ops o = 0 → σ' = σ ∧ Gives P (val σ.env) o av) ∧ (clsO ops o = 1 → GoesB P (val σ.env) o σ σ' av) ∧ (clsO ops o = 2 → GoesE P (val σ.env) o σ σ' av)

theorem evOpF_fact (hE : TOk P E) {ops : Array Oper} {o : Oper} {σ : St} (hw : σ.wf) {K : AV → St → Prop} (h : evOpF P E false (frO false ops o) o.op σ K) : FactsO P ops o σ K := by
  unfold FactsO clsO
  cases hf : frO false ops o with
  | true =>
    rw [hf] at h
    obtain ⟨av, σ', hk, hext, hwf, hg⟩ := opF_sound hE hw h
    exact ⟨av, σ', hk, hext.env, hext.next, hwf, fun _ => hext.objs, (fun h => by cases h), fun _ => hg, (fun h => by cases h)⟩
  | false =>
    rw [hf] at h
    exact evOp_fact hE hw h

theorem lit_get {σ : St} {d : Nat} {b c : Bool} (hb : get σ.env d = some (.c (.t (.bool b)))) (e : b = c) {k : Nat} {u : AV} (h : get (σ.put (some d) (vbool c)).env k = some u) : get σ.env k = some u := by
  subst e
  by_cases e : k = d
  · subst e
    have : some (vbool b) = some u := by rw [← h]; exact (get_cons_same _ _ _).symm
    rw [← this]; exact hb
  · rw [← h]; exact (get_cons_other _ _ _ _ e).symm

/-- The environment behind an operation. -/
theorem put_env {σ τ σ' : St} {o : Oper} {v : AV} (hτ : ∀ k u, get τ.env k = some u → get σ.env k = some u) (he : σ'.env = τ.env) : ∀ k u, get (σ'.put o.dst v).env k = some u → (o.dst = some k ∧ u = v) ∨ (o.dst ≠ some k ∧ get σ.env k = some u) := by
  intro k u h
  cases hd : o.dst with
  | none =>
    rw [hd] at h
    exact .inr ⟨by simp, hτ k u (by rw [← he]; exact h)⟩
  | some d =>
    rw [hd] at h
    by_cases e : k = d
    · subst e
      have : some v = some u := by rw [← h]; exact (get_cons_same _ _ _).symm
      injection this with this
      exact .inl ⟨rfl, this.symm⟩
    · refine .inr ⟨fun e' => by injection e' with e'; exact e e'.symm, hτ k u ?_⟩
      rw [← he, ← h]; exact (get_cons_other _ _ _ _ e).symm

theorem put_st (σ : St) (d : Option Nat) (v : AV) : (σ.put d v).objs = σ.objs ∧ (σ.put d v).next = σ.next ∧ (σ.wf → (σ.put d v).wf) := by
  cases d <;> exact ⟨rfl, rfl, fun h id o ho => h id o ho⟩

theorem fact_run (hE : TOk P E) {i : Nat} {o : Oper} (hi : ops[i]? = some o) {σ τ : St} (hw : σ.wf) (hd : dstOk nt o.dst = true) (hτ : ∀ k u, get τ.env k = some u → get σ.env k = some u) (ho : τ.objs = σ.objs) (hn : τ.next = σ.next)
    (hwant : ∀ O G w a, Slots nt ops o σ.env O G w a → Region.wanted o (yielded ops a.tmps) = true) {K : AV → St → Prop} (h : evOpF P E false (frO false ops o) o.op τ K) : ∃ av σ', K av σ' ∧ Fact P nt ops i o σ av (σ'.put o.dst av) := by
  have hwτ : τ.wf := fun id x hx => by rw [hn]; exact hw id x (by rw [← ho]; exact hx)
  obtain ⟨av, σ', hk, henv, hnext, hwf, hext, hA, hB, hE'⟩ := evOpF_fact hE hwτ h
  obtain ⟨p1, p2, p3⟩ := put_st σ' o.dst av
  have hsl : ∀ {O G w a}, Slots nt ops o σ.env O G w a → OpsRep (val τ.env) o.op O G w a := fun {O G w a} hs =>
    Slots.opsRep (ops := ops) (nt := nt) ⟨hs.1, fun k hk u hu => hs.2 k hk u (hτ k u hu)⟩
  refine ⟨av, σ', hk, hi, fun d e => ?_, by rw [p2, ← hn]; exact hnext, p3 hwf, put_env hτ henv, fun hc id hid => ?_, fun hc => ?_, fun hc => ?_, fun hc => ?_⟩
  · rw [e] at hd
    have : d + 1 ≤ nt := by simpa [dstOk, Nat.blt] using hd
    exact this
  · rw [p1, hext hc id (by rw [hn]; exact hid), ho]
  · obtain ⟨rfl, hg⟩ := hA hc
    refine ⟨by rw [p1, ho], by rw [p2, hn], fun O G w a Kc Q hs hK => ?_⟩
    unfold wpOp
    simp only [hi, hwant O G w a hs, if_true]
    obtain ⟨u, h1, h2⟩ := hg O G w a (hsl hs)
    exact .inl (wp_value h1 (hK u h2))
  · intro w0 O G w a Kc Q hsub hM hs hfr hK
    unfold wpOp
    simp only [hi, hwant O G w a hs, if_true]
    rw [p1] at hsub
    rw [p2] at hfr hK
    refine .inl (hB hc w0 O G w a Kc Q hsub hM (hsl hs) (fun j h1 h2 => hfr j (by rw [← hn]; exact h1) h2) (fun G' u w' a1 a2 a3 a4 => hK G' u w' a1 a2 a3 (fun j hj => ?_)))
    rcases a4 j hj with h | h
    · exact .inl h
    · exact .inr ⟨by rw [← hn]; exact h.1, h.2⟩
  · intro w0 G w a Kc Q hM hs hfr hK
    unfold wpOp
    simp only [hi, hwant _ G w a hs, if_true]
    rw [p1, p2] at hK
    rw [← ho] at hM hK hs
    exact .inl (hE' hc w0 G w a Kc Q hM (hsl (by rw [ho] at hs ⊢; exact hs)) (fun j hj => by rw [hn]; exact hfr j hj) hK)

theorem fact_skip {i : Nat} {o : Oper} (hi : ops[i]? = some o) {σ τ : St} (hw : σ.wf) (hd : dstOk nt o.dst = true) (hτ : ∀ k u, get τ.env k = some u → get σ.env k = some u) (ho : τ.objs = σ.objs) (hn : τ.next = σ.next)
    (hwant : ∀ O G w a, Slots nt ops o σ.env O G w a → Region.wanted o (yielded ops a.tmps) = false) : Fact P nt ops i o σ .junk (τ.put o.dst .junk) := by
  have hwτ : τ.wf := fun id x hx => by rw [hn]; exact hw id x (by rw [← ho]; exact hx)
  obtain ⟨p1, p2, p3⟩ := put_st τ o.dst .junk
  have run : ∀ {O G w a} {Kc : Act → World → Prop} {Q : Exit → Act → World → Prop}, Slots nt ops o σ.env O G w a → Kc (a.put o.dst undef) w → wpOp P ops Q i Kc a w := by
    intro O G w a Kc Q hs hk
    unfold wpOp
    simp only [hi, hwant O G w a hs, Bool.false_eq_true, if_false]
    exact hk
  refine ⟨hi, fun d e => ?_, by rw [p2, hn]; exact Nat.le_refl _, p3 hwτ, put_env hτ rfl, fun _ id _ => by rw [p1, ho], fun _ => ⟨by rw [p1, ho], by rw [p2, hn], fun O G w a Kc Q hs hK => run hs (hK _ (by simp only [AV.rep]))⟩, fun _ => ?_, fun _ => ?_⟩
  · rw [e] at hd
    have : d + 1 ≤ nt := by simpa [dstOk, Nat.blt] using hd
    exact this
  · exact fun w0 O G w a Kc Q _ hM hs _ hK => run hs (hK G _ w hM Pres.refl (by simp only [AV.rep]) (fun j hj => .inl hj))
  · intro w0 G w a Kc Q hM hs hfr hK
    rw [p1, p2, ho, hn] at hK
    exact run hs (hK G _ w hM Pres.refl (by simp only [AV.rep]) hfr)

theorem evOps_trace (hE : TOk P E) {K : St → Prop} : ∀ (l : List Oper) (p : Nat) (σ : St), (∀ i o, l[i]? = some o → ops[p + i]? = some o) → σ.wf → evOps P E nt false ops l K σ →
    ∃ (s : Nat → St) (av : Nat → AV), s p = σ ∧ (∀ i o, l[i]? = some o → Fact P nt ops (p + i) o (s (p + i)) (av (p + i)) (s (p + i + 1))) ∧ K (s (p + l.length))
  | [], p, σ, _, _, h => ⟨fun _ => σ, fun _ => .junk, rfl, by simp, h⟩
  | o :: rest, p, σ, hl, hw, h => by
    have hi : ops[p]? = some o := by simpa using hl 0 o (by simp)
    simp only [evOps, putK_eq] at h
    rcases scase_out h with ⟨hd, h⟩ | ⟨_, h⟩
    case inr => exact h.elim
    have next : ∀ {v : AV} {σ' : St}, Fact P nt ops p o σ v σ' → evOps P E nt false ops rest K σ' → ∃ (s : Nat → St) (av : Nat → AV), s p = σ ∧ (∀ i q, (o :: rest)[i]? = some q → Fact P nt ops (p + i) q (s (p + i)) (av (p + i)) (s (p + i + 1))) ∧ K (s (p + (o :: rest).length)) := by
      intro v σ' hf h
      obtain ⟨s, av, h1, h2, h3⟩ := evOps_trace hE rest (p + 1) σ' (fun i q hq => by
        have := hl (i + 1) q (by simpa using hq)
        rw [show p + 1 + i = p + (i + 1) by omega]; exact this) hf.wf h
      refine ⟨fun i => if i = p then σ else s i, fun i => if i = p then v else av i, by simp, fun i q hq => ?_, ?_⟩
      · cases i with
        | zero =>
          simp at hq
          subst hq
          simpa [h1] using hf
        | succ i =>
          have := h2 i q (by simpa using hq)
          rw [show p + 1 + i = p + (i + 1) by omega] at this
          have e1 : p + (i + 1) ≠ p := by omega
          have e2 : p + (i + 1) + 1 ≠ p := by omega
          simp only [e1, e2, if_false]
          exact this
      · have e1 : p + (rest.length + 1) ≠ p := by omega
        simp only [List.length_cons, e1, if_false]
        rw [show p + (rest.length + 1) = p + 1 + rest.length by omega]
        exact h3
    split at h
    · rename_i hg
      obtain ⟨av, σ', hk, hf⟩ := fact_run (nt := nt) hE hi hw hd (fun _ _ h => h) rfl rfl (fun O G w a _ => by simp [Region.wanted, hg]) h
      exact next hf hk
    · rename_i j want hg
      have h' := need_some h; clear h
      obtain ⟨d, ed, h⟩ := h'
      have hlook : d ∈ o.looksAt ops := by
        unfold Oper.looksAt
        refine List.mem_append_right _ ?_
        rw [hg]
        simp only [ed]
        simp
      have yld : ∀ {a : Act} v, a.tmps.size = nt → d < nt → a.tmps.getD d undef = v → yielded ops a.tmps j = (match v with | .bool b => some b | _ => none) := by
        intro a v hsz hdn hv
        have hdl : d < a.tmps.size := by rw [hsz]; exact hdn
        unfold yielded
        rw [ed]
        simp only [Option.bind_some]
        rw [Array.getElem?_eq_getElem hdl]
        have : a.tmps[d] = v := by rw [← hv]; simp [Array.getD, hdl]
        rw [this]
        cases v <;> rfl
      split at h
      · rename_i b hb
        have hy : ∀ O G w a, Slots nt ops o σ.env O G w a → yielded ops a.tmps j = some b := fun O G w a hs => by
          have := yld _ hs.1 ((hs.2 d hlook _ hb).1.resolve_right (by simp [isFrm])) (bool_of (hs.2 d hlook _ hb).2)
          simpa using this
        cases want with
        | true =>
          simp only at h
          rcases bcase_out h with ⟨hbt, hz⟩ | ⟨hbf, hz⟩
          · obtain ⟨av, σ', hk, hf⟩ := fact_run (nt := nt) (τ := σ.put (some d) (vbool true)) hE hi hw hd (fun k u hu => lit_get hb hbt hu) rfl rfl (fun O G w a hs => by simp [Region.wanted, hg, hy O G w a hs, hbt]) hz
            exact next hf hk
          · exact next (fact_skip (nt := nt) (τ := σ.put (some d) (vbool false)) hi hw hd (fun k u hu => lit_get hb hbf hu) rfl rfl (fun O G w a hs => by simp [Region.wanted, hg, hy O G w a hs, hbf])) hz
        | false =>
          simp only at h
          rcases bcase_out h with ⟨hbt, hz⟩ | ⟨hbf, hz⟩
          · exact next (fact_skip (nt := nt) (τ := σ.put (some d) (vbool true)) hi hw hd (fun k u hu => lit_get hb hbt hu) rfl rfl (fun O G w a hs => by simp [Region.wanted, hg, hy O G w a hs, hbt])) hz
          · obtain ⟨av, σ', hk, hf⟩ := fact_run (nt := nt) (τ := σ.put (some d) (vbool false)) hE hi hw hd (fun k u hu => lit_get hb hbf hu) rfl rfl (fun O G w a hs => by simp [Region.wanted, hg, hy O G w a hs, hbf]) hz
            exact next hf hk
      · rename_i hb
        refine next (fact_skip (nt := nt) (τ := σ) hi hw hd (fun _ _ h => h) rfl rfl (fun O G w a hs => ?_)) h
        have hv := (hs.2 d hlook _ hb).2
        simp only [AV.rep] at hv
        have := yld _ hs.1 ((hs.2 d hlook _ hb).1.resolve_right (by simp [isFrm])) hv
        simp [Region.wanted, hg, this, undef]
      · exact h.elim
end
end Go.Vm

namespace Go.Vm
open Go.RowKit

theorem countP_lt {p q : Nat → Bool} : ∀ {l : List Nat} {x : Nat}, (∀ y ∈ l, q y = true → p y = true) → x ∈ l → p x = true → q x = false → l.countP q < l.countP p
  | [], x, _, hx, _, _ => by simp at hx
  | y :: r, x, h, hx, hp, hq => by
    have hle : r.countP q ≤ r.countP p := List.countP_mono_left (fun z hz => h z (by simp [hz]))
    rw [List.countP_cons, List.countP_cons]
    rcases List.mem_cons.1 hx with rfl | hx
    · simp [hp, hq]; omega
    · have ih := countP_lt (fun z hz => h z (by simp [hz])) hx hp hq
      have := h y (by simp)
      by_cases hqy : q y = true
      · simp [hqy, this hqy]; exact ih
      · by_cases hpy : p y = true
        · simp [hqy, hpy]; omega
        · simp [hqy, hpy]; exact ih

section
variable {P : Program} {E : Nat → Option TI} {nt : Nat} {w0 : Base} {ops : Array Oper}

/-- Does the set hold? -/
def inS (listed : Array Bool) (i : Nat) : Prop := listed.getD i false = true

structure Facts0 (P : Program) (nt : Nat) (ops : Array Oper) (s : Nat → St) (av : Nat → AV) : Prop where
  fact : ∀ (i : Nat) o, ops[i]? = some o → Fact P nt ops i o (s i) (av i) (s (i + 1))
  wf : (s 0).wf
  lt : ∀ k u, get (s 0).env k = some u → k < nt ∨ isFrm u = true

/-- The place of the first change that is not yet laid. -/
structure Phase (ops : Array Oper) (listed : Array Bool) (m : Nat) : Prop where
  le : m ≤ ops.size
  old : ∀ (i : Nat) o, i < m → ops[i]? = some o → clsO ops o = 2 → inS listed i
  new : ∀ o, ops[m]? = some o → clsO ops o = 2 ∧ ¬ inS listed m

structure Inv (w0 : Base) (nt : Nat) (ops : Array Oper) (s : Nat → St) (av : Nat → AV) (listed : Array Bool) (m : Nat) (G : Gh) (a : Act) (w : World) : Prop where
  size : listed.size = ops.size
  closed : ∀ (i : Nat) o e, inS listed i → ops[i]? = some o → e ∈ o.after → Region.binds .any e = true → inS listed e.on
  ph : Phase ops listed m
  mem : Mem w0 (s m).objs G w
  laid : ∀ j, G.A j → j < (s 0).next ∨ ∃ i, inS listed i ∧ (s i).next ≤ j ∧ j < (s (i + 1)).next
  done : ∀ (i : Nat) o k, inS listed i → ops[i]? = some o → o.dst = some k → (av i).rep (s m).objs G w (a.tmps.getD k undef)
  kept : ∀ k u, get (s 0).env k = some u → (∀ (i : Nat) o, inS listed i → ops[i]? = some o → o.dst ≠ some k) → u.rep (s m).objs G w (a.tmps.getD k undef)
  tmps : a.tmps.size = nt
  defers : a.defers = []

theorem inS_lt {listed : Array Bool} {i : Nat} (h : inS listed i) : i < listed.size := by
  unfold inS at h
  rw [Array.getD_eq_getD_getElem?] at h
  rcases Nat.lt_or_ge i listed.size with hlt | hge
  · exact hlt
  · rw [Array.getElem?_eq_none hge] at h; cases h

theorem reach_in {listed : Array Bool} (hc : ∀ (i : Nat) o e, inS listed i → ops[i]? = some o → e ∈ o.after → Region.binds .any e = true → inS listed e.on) {i k : Nat} (h : Reach ops i k) : inS listed i → inS listed k := by
  induction h with
  | edge h1 h2 h3 => intro hi; exact hc _ _ _ hi h1 h2 h3
  | step h1 h2 h3 _ ih => intro hi; exact ih (hc _ _ _ hi h1 h2 h3)

theorem ready_reach {listed : Array Bool} (hc : ∀ (i : Nat) o e, inS listed i → ops[i]? = some o → e ∈ o.after → Region.binds .any e = true → inS listed e.on) {j : Nat} (hj : j ∈ Region.ready .any ops listed) {k : Nat} (h : Reach ops j k) : inS listed k := by
  obtain ⟨_, o, ho, hall⟩ := mem_ready.1 hj
  cases h with
  | edge h1 h2 h3 => rw [ho] at h1; injection h1 with h1; subst h1; exact hall _ h2 h3
  | step h1 h2 h3 h4 => rw [ho] at h1; injection h1 with h1; subst h1; exact reach_in hc h4 (hall _ h2 h3)

theorem getD_set_same {listed : Array Bool} {i : Nat} (h : i < listed.size) : inS (listed.setIfInBounds i true) i := by
  unfold inS
  rw [Array.getD_eq_getD_getElem?, Array.getElem?_setIfInBounds_self_of_lt h]
  rfl
theorem inS_set {listed : Array Bool} {i j : Nat} (h : inS (listed.setIfInBounds i true) j) : inS listed j ∨ j = i := by
  by_cases e : j = i
  · exact .inr e
  · left
    unfold inS at h ⊢
    rw [Array.getD_eq_getD_getElem?, Array.getElem?_setIfInBounds_ne (Ne.symm e)] at h
    rw [Array.getD_eq_getD_getElem?]; exact h
theorem inS_set_mono {listed : Array Bool} {i j : Nat} (h : inS listed j) : inS (listed.setIfInBounds i true) j := by
  by_cases e : j = i
  · subst e; exact getD_set_same (inS_lt h)
  · unfold inS at h ⊢
    rw [Array.getD_eq_getD_getElem?] at h
    rw [Array.getD_eq_getD_getElem?, Array.getElem?_setIfInBounds_ne (Ne.symm e)]; exact h

variable {s : Nat → St} {av : Nat → AV}

theorem next_mono (hF : Facts0 P nt ops s av) : ∀ {i j : Nat}, i ≤ j → j ≤ ops.size → (s i).next ≤ (s j).next := by
  intro i j hij hj
  induction j with
  | zero => have : i = 0 := by omega
            subst this; exact Nat.le_refl _
  | succ j ih =>
    rcases Nat.lt_or_ge i (j + 1) with h | h
    · refine Nat.le_trans (ih (by omega) (by omega)) ?_
      exact (hF.fact j ops[j] (by simp)).next
    · have : i = j + 1 := by omega
      subst this; exact Nat.le_refl _

theorem wf_all (hF : Facts0 P nt ops s av) {j : Nat} (hj : j ≤ ops.size) : (s j).wf := by
  cases j with
  | zero => exact hF.wf
  | succ j => exact (hF.fact j ops[j] (by simp)).wf

/-- No change between i and j: the objects of i are those of j. -/
theorem objs_ext (hF : Facts0 P nt ops s av) : ∀ {i j : Nat}, i ≤ j → j ≤ ops.size → (∀ (k : Nat) o, i ≤ k → k < j → ops[k]? = some o → clsO ops o ≠ 2) → ∀ id, id < (s i).next → get (s j).objs id = get (s i).objs id := by
  intro i j hij hj hno id hid
  induction j with
  | zero => have : i = 0 := by omega
            subst this; rfl
  | succ j ih =>
    rcases Nat.lt_or_ge i (j + 1) with h | h
    · have h1 := (hF.fact j ops[j] (by simp)).ext (hno j _ (by omega) (by omega) (by simp)) id (Nat.lt_of_lt_of_le hid (next_mono hF (by omega) (by omega)))
      rw [h1]
      exact ih (by omega) (by omega) (fun k o a b c => hno k o a (by omega) c)
    · have : i = j + 1 := by omega
      subst this; rfl

/-- The environment ahead of j: each slot as its one writer left it, or as it was. -/
theorem env_at (hF : Facts0 P nt ops s av) : ∀ {j : Nat}, j ≤ ops.size → ∀ k u, get (s j).env k = some u →
    (∃ i o, i < j ∧ ops[i]? = some o ∧ o.dst = some k ∧ u = av i) ∨ ((∀ (i : Nat) o, i < j → ops[i]? = some o → o.dst ≠ some k) ∧ get (s 0).env k = some u) := by
  intro j
  induction j with
  | zero => intro _ k u h; exact .inr ⟨fun i o h => by omega, h⟩
  | succ j ih =>
    intro hj k u h
    rcases (hF.fact j ops[j] (by simp)).env k u h with ⟨h1, h2⟩ | ⟨h1, h2⟩
    · exact .inl ⟨j, ops[j], by omega, by simp, h1, h2⟩
    · rcases ih (by omega) k u h2 with ⟨i, o, h3, h4⟩ | ⟨h3, h4⟩
      · exact .inl ⟨i, o, by omega, h4⟩
      · refine .inr ⟨fun i o hi ho => ?_, h4⟩
        rcases Nat.lt_or_ge i j with h | h
        · exact h3 i o h ho
        · have : i = j := by omega
          subst this
          have hio : i < ops.size := by omega
          rw [Array.getElem?_eq_getElem hio] at ho
          injection ho with ho
          rw [← ho]
          exact h1

theorem slots_at (hF : Facts0 P nt ops s av) (hd : DrawOK ops) {listed : Array Bool} {m : Nat} {G : Gh} {a : Act} {w : World} (hI : Inv w0 nt ops s av listed m G a w) {j : Nat} {o : Oper} (ho : ops[j]? = some o) (hj : j ∈ Region.ready .any ops listed) :
    Slots nt ops o (s j).env (s m).objs G w a := by
  have hjn : j < ops.size := (Array.getElem?_eq_some_iff.1 ho).1
  have hnj : ¬ inS listed j := by
    have := (mem_ready.1 hj).1
    unfold inS
    rw [Array.getD_eq_getD_getElem?] at this ⊢
    rw [Array.getElem?_eq_getElem (by rw [hI.size]; exact hjn)] at this ⊢
    simp at this ⊢
    exact this
  refine ⟨hI.tmps, fun k hk u hu => ?_⟩
  rcases env_at hF (Nat.le_of_lt hjn) k u hu with ⟨i, x, h1, h2, h3, rfl⟩ | ⟨h1, h2⟩
  · have hc : conflict ops x o = true := by simp [conflict, h3, dstIn, memN_iff.2 hk]
    have := ready_reach hI.closed hj ((hd.pair j i x o h1 h2 ho).2 hc)
    exact ⟨.inl ((hF.fact i x h2).dst k h3), hI.done i x k this h2 h3⟩
  · refine ⟨hF.lt k u h2, hI.kept k u h2 (fun i x hi hx hdx => ?_)⟩
    rcases Nat.lt_or_ge i j with h | h
    · exact h1 i x h hx hdx
    · have hne : i ≠ j := fun e => by subst e; exact hnj hi
      have hc : conflict ops o x = true := by simp [conflict, hdx, dstIn, memN_iff.2 hk]
      exact hnj (reach_in hI.closed ((hd.pair i j o x (by omega) ho hx).2 hc) hi)

theorem phase_next (m : Nat) : ∀ n, ∀ k, n - k = m → k ≤ n → ∀ (c : Nat → Bool), ∃ m', k ≤ m' ∧ m' ≤ n ∧ (∀ i, k ≤ i → i < m' → c i = false) ∧ (m' < n → c m' = true) := by
  induction m with
  | zero => intro n k h1 h2 c; exact ⟨k, Nat.le_refl _, h2, fun i _ _ => by omega, fun h => by omega⟩
  | succ m ih =>
    intro n k h1 h2 c
    cases hc : c k with
    | true => exact ⟨k, Nat.le_refl _, h2, fun i _ _ => by omega, fun _ => hc⟩
    | false =>
      obtain ⟨m', h3, h4, h5, h6⟩ := ih n (k + 1) (by omega) (by omega) c
      refine ⟨m', by omega, h4, fun i h7 h8 => ?_, h6⟩
      by_cases e : i = k
      · subst e; exact hc
      · exact h5 i (by omega) h8

/-- From a state's objects to those of a later place with no change between: what is laid stays. -/
theorem mem_later {O O' : List (Nat × Ob)} {G : Gh} {w : World} {n : Nat} (hM : Mem w0 O G w) (hA : ∀ j, G.A j → j < n) (he : ∀ id, id < n → get O' id = get O id) : Mem w0 O' G w ∧ Pres O G w O' G w := by
  have hlv : ∀ id, Lv O' G id → Lv O G id := fun id hl => ⟨hl.1, by obtain ⟨ob, hob⟩ := hl.2; exact ⟨ob, by rw [← he id (hA id hl.1)]; exact hob⟩⟩
  have hp : Pres O G w O' G w := ⟨fun id h => ⟨h, rfl⟩, fun id hl b hb => .inl ⟨id, hlv id hl, hb⟩, fun _ _ _ => rfl, Nat.le_refl _, rfl, rfl⟩
  exact ⟨⟨hM.below, hM.base, hM.fix, fun id ob ha ho => Ob.rep_pres hp rfl rfl rfl (hM.hds id (hlv id ⟨ha, ob, ho⟩)) (fun _ _ => rfl) ob (hM.obs id ob ha (by rw [← he id (hA id ha)]; exact ho)),
    fun id hl => hM.nodup id (hlv id hl), fun i j hi hj => hM.disj i j (hlv i hi) (hlv j hj), fun id hl => hM.lo id (hlv id hl), fun id hl => hM.hds id (hlv id hl)⟩, hp⟩

/-- One operation more. -/
theorem inv_step (hF : Facts0 P nt ops s av) (hd : DrawOK ops) {listed : Array Bool} {m m' : Nat} {G G' : Gh} {a : Act} {w w' : World} (hI : Inv w0 nt ops s av listed m G a w) {j : Nat} {o : Oper} (ho : ops[j]? = some o) (hj : j ∈ Region.ready .any ops listed)
    (hph : Phase ops (listed.setIfInBounds j true) m') (hM : Mem w0 (s m').objs G' w') (hp : Pres (s m).objs G w (s m').objs G' w') {v : Value} (hv : (av j).rep (s m').objs G' w' v) (hA : ∀ x, G'.A x → G.A x ∨ (x < (s 0).next ∨ ∃ i, inS (listed.setIfInBounds j true) i ∧ (s i).next ≤ x ∧ x < (s (i + 1)).next)) :
    Inv w0 nt ops s av (listed.setIfInBounds j true) m' G' (a.put o.dst v) w' := by
  have hjn : j < ops.size := (Array.getElem?_eq_some_iff.1 ho).1
  have hjl : j < listed.size := by rw [hI.size]; exact hjn
  obtain ⟨_, o', ho', hall⟩ := mem_ready.1 hj
  rw [ho] at ho'
  injection ho' with ho'
  subst ho'
  have hfj := hF.fact j o ho
  have slot : ∀ {k : Nat}, o.dst ≠ some k → (a.put o.dst v).tmps.getD k undef = a.tmps.getD k undef := by
    intro k hk
    cases hdo : o.dst with
    | none => rfl
    | some d => exact getD_put_other (fun e => hk (by rw [hdo, e]))
  refine ⟨by simp [hI.size], fun i x e hi hx he hb => ?_, hph, hM, fun x hx => ?_, fun i x k hi hx hk => ?_, fun k u hu hno => ?_, ?_, ?_⟩
  · rcases inS_set hi with hi | rfl
    · exact inS_set_mono (hI.closed i x e hi hx he hb)
    · rw [ho] at hx
      injection hx with hx
      subst hx
      exact inS_set_mono (hall e he hb)
  · rcases hA x hx with h | h
    · rcases hI.laid x h with h | ⟨i, h1, h2⟩
      · exact .inl h
      · exact .inr ⟨i, inS_set_mono h1, h2⟩
    · exact h
  · by_cases e : i = j
    · subst e
      rw [ho] at hx
      injection hx with hx
      subst hx
      rw [hk, getD_put_same (by rw [hI.tmps]; exact hfj.dst k hk)]
      exact hv
    · have hi' : inS listed i := (inS_set hi).resolve_right e
      have hne : o.dst ≠ some k := by
        intro hok
        rcases Nat.lt_or_ge i j with h | h
        · exact (hd.pair j i x o h hx ho).1 k hk hok
        · exact (hd.pair i j o x (by omega) ho hx).1 k hok hk
      rw [slot hne]
      exact (av i).rep_pres hp _ (hI.done i x k hi' hx hk)
  · have hne : o.dst ≠ some k := hno j o (getD_set_same hjl) ho
    rw [slot hne]
    exact u.rep_pres hp _ (hI.kept k u hu (fun i x hi hx => hno i x (inS_set_mono hi) hx))
  · rw [← hI.tmps]
    cases o.dst <;> simp [Act.put]
  · rw [← hI.defers]
    cases o.dst <;> rfl

theorem conflict_me {x y : Oper} (h : (clsO ops x = 2 ∧ clsO ops y ≠ 0) ∨ (clsO ops y = 2 ∧ clsO ops x ≠ 0)) : conflict ops x y = true := by
  have e : ∀ {n : Nat}, n ≠ 0 → Nat.beq n 0 = false := fun {n} hn => by cases n with | zero => omega | succ n => rfl
  unfold conflict
  rcases h with ⟨h1, h2⟩ | ⟨h1, h2⟩
  · simp [h1, e h2]
  · cases hb : Nat.beq (clsO ops x) 2 with
    | true => have := e (n := clsO ops y) (by omega); simp [this]
    | false => simp [h1, e h2]

theorem range_of : ∀ (n x : Nat), (s 0).next ≤ x → x < (s n).next → ∃ i, i < n ∧ (s i).next ≤ x ∧ x < (s (i + 1)).next := by
  intro n
  induction n with
  | zero => intro x h1 h2; omega
  | succ n ih =>
    intro x h1 h2
    rcases Nat.lt_or_ge x (s n).next with h | h
    · obtain ⟨i, h3, h4⟩ := ih x h1 h
      exact ⟨i, by omega, h4⟩
    · exact ⟨n, by omega, h, h2⟩

theorem draw_any (hF : Facts0 P nt ops s av) (hd : DrawOK ops) {Q : Exit → Act → World → Prop} (hQ : ∀ G a w, Rel w0 (s ops.size) G nt a w → Q .normal a w) :
    ∀ (fuel : Nat) (listed : Array Bool) (m : Nat) (G : Gh) (a : Act) (w : World), (List.range ops.size).countP (fun i => !listed.getD i false) ≤ fuel → Inv w0 nt ops s av listed m G a w → wpAny P .any ops Q fuel listed a w := by
  have fin : ∀ (listed : Array Bool) (m : Nat) (G : Gh) (a : Act) (w : World), Inv w0 nt ops s av listed m G a w → Region.ready .any ops listed = [] → Q .normal a w := by
    intro listed m G a w hI hr
    have all : ∀ i, i < ops.size → inS listed i := by
      intro i
      induction i using Nat.strongRecOn with
      | ind i ih =>
        intro hi
        by_cases h : inS listed i
        · exact h
        · exfalso
          have : i ∈ Region.ready .any ops listed := mem_ready.2 ⟨by
            unfold inS at h
            rw [Array.getD_eq_getD_getElem?] at h ⊢
            rw [Array.getElem?_eq_getElem (by rw [hI.size]; exact hi)] at h ⊢
            simpa using h, ops[i], by simp, fun e he hb => by
              have hlt := hd.back i ops[i] e (by simp) he hb
              exact ih e.on hlt (by omega)⟩
          rw [hr] at this
          cases this
    have hm : m = ops.size := by
      rcases Nat.lt_or_ge m ops.size with h | h
      · exact absurd (all m h) (hI.ph.new ops[m] (by simp)).2
      · have := hI.ph.le; omega
    have hm' := hm
    subst hm
    refine hQ G a w ⟨hI.mem, fun k u hu => ?_, fun k u hu => ?_, hI.tmps, fun j hj => ?_, wf_all hF (Nat.le_refl _), hI.defers⟩
    · rcases env_at hF (Nat.le_refl _) k u hu with ⟨i, x, h1, h2, h3, rfl⟩ | ⟨h1, h2⟩
      · exact hI.done i x k (all i h1) h2 h3
      · exact hI.kept k u h2 (fun i x hi hx => h1 i x (Array.getElem?_eq_some_iff.1 hx).1 hx)
    · rcases env_at hF (Nat.le_refl _) k u hu with ⟨i, x, h1, h2, h3, rfl⟩ | ⟨h1, h2⟩
      · exact .inl ((hF.fact i x h2).dst k h3)
      · exact hF.lt k u h2
    · rcases hI.laid j hj with h | ⟨i, h1, h2, h3⟩
      · exact Nat.lt_of_lt_of_le h (next_mono hF (Nat.zero_le _) (Nat.le_refl _))
      · have hi := inS_lt h1
        rw [hI.size] at hi
        exact Nat.lt_of_lt_of_le h3 (next_mono hF (by omega) (Nat.le_refl _))
  intro fuel
  induction fuel with
  | zero =>
    intro listed m G a w hc hI
    have hr : Region.ready .any ops listed = [] := by
      refine List.eq_nil_iff_forall_not_mem.2 (fun j hj => ?_)
      obtain ⟨h1, o, h2, _⟩ := mem_ready.1 hj
      have hjn : j < ops.size := (Array.getElem?_eq_some_iff.1 h2).1
      have h0 : (List.range ops.size).countP (fun i => !listed.getD i false) = 0 := by omega
      have := List.countP_eq_zero.1 h0 j (by simp [hjn])
      rw [Array.getD_eq_getD_getElem?] at h1 this
      rw [Array.getElem?_eq_getElem (by rw [hI.size]; exact hjn)] at h1 this
      simp at h1 this
      rw [h1] at this
      cases this
    exact ⟨hr, fin listed m G a w hI hr⟩
  | succ fuel ih =>
    intro listed m G a w hc hI
    refine ⟨fin listed m G a w hI, fun j hj => ?_⟩
    obtain ⟨hun, o, ho, _⟩ := mem_ready.1 hj
    have hjn : j < ops.size := (Array.getElem?_eq_some_iff.1 ho).1
    have hjl : j < listed.size := by rw [hI.size]; exact hjn
    have hnj : ¬ inS listed j := by
      unfold inS
      rw [Array.getD_eq_getD_getElem?] at hun ⊢
      rw [Array.getElem?_eq_getElem hjl] at hun ⊢
      simp at hun ⊢
      exact hun
    have hcnt : (List.range ops.size).countP (fun i => !(listed.setIfInBounds j true).getD i false) ≤ fuel := by
      have := countP_lt (p := fun i => !listed.getD i false) (q := fun i => !(listed.setIfInBounds j true).getD i false) (l := List.range ops.size) (x := j) (fun y _ hy => by
        by_cases h : inS listed y
        · have := inS_set_mono (i := j) h
          unfold inS at this
          rw [this] at hy
          cases hy
        · unfold inS at h
          cases hb : listed.getD y false with
          | true => exact absurd hb h
          | false => rfl) (by simp [hjn]) (by unfold inS at hnj; cases hb : listed.getD j false with | true => exact absurd hb hnj | false => rfl)
          (by have := getD_set_same hjl; unfold inS at this; simp [this])
      omega
    have hf := hF.fact j o ho
    have hsl := slots_at hF hd hI ho hj
    have same : clsO ops o ≠ 2 → Phase ops (listed.setIfInBounds j true) m := fun h2 => ⟨hI.ph.le, fun i x hi hx hcx => inS_set_mono (hI.ph.old i x hi hx hcx), fun x hx => by
      obtain ⟨h3, h4⟩ := hI.ph.new x hx
      refine ⟨h3, fun h5 => ?_⟩
      rcases inS_set h5 with h5 | rfl
      · exact h4 h5
      · rw [ho] at hx; injection hx with hx; subst hx; exact h2 h3⟩
    rcases clsO_le ops o with h0 | h1 | h2
    · obtain ⟨_, _, hg⟩ := hf.a h0
      refine hg _ G w a _ Q hsl (fun u hu => ih _ m G _ w hcnt (inv_step hF hd hI ho hj (same (by omega)) hI.mem Pres.refl hu (fun x hx => .inl hx)))
    · have hjm : j < m := by
        rcases Nat.lt_or_ge j m with h | h
        · exact h
        · exfalso
          have hmn : m < ops.size := by omega
          obtain ⟨h3, h4⟩ := hI.ph.new ops[m] (by simp)
          have hne : m ≠ j := fun e => by
            subst e
            rw [Array.getElem?_eq_getElem hmn] at ho
            injection ho with ho
            rw [ho] at h3
            omega
          exact h4 (ready_reach hI.closed hj ((hd.pair j m ops[m] o (by omega) (by simp) ho).2 (conflict_me (.inl ⟨h3, by omega⟩))))
      have hext := objs_ext hF (i := j + 1) (j := m) (by omega) hI.ph.le (fun k x hk1 hk2 hx hcx => by
        have hk := hI.ph.old k x hk2 hx hcx
        exact hnj (reach_in hI.closed ((hd.pair k j o x (by omega) ho hx).2 (conflict_me (.inr ⟨hcx, by omega⟩))) hk))
      refine hf.b h1 w0 (s m).objs G w a _ Q (fun id ob hob => ?_) hI.mem hsl (fun x hx1 hx2 hA => ?_) (fun G' u w' hM' hp hu hA => ih _ m G' _ w' hcnt (inv_step hF hd hI ho hj (same (by omega)) hM' hp hu (fun x hx => (hA x hx).imp_right (fun h => .inr ⟨j, getD_set_same hjl, h⟩))))
      · rw [hext id (hf.wf id ob hob)]; exact hob
      · rcases hI.laid x hA with h | ⟨i, h3, h4, h5⟩
        · have := next_mono hF (Nat.zero_le j) (Nat.le_of_lt hjn)
          omega
        · have hil := inS_lt h3
          rw [hI.size] at hil
          rcases Nat.lt_trichotomy i j with h | h | h
          · have := next_mono hF (show i + 1 ≤ j from h) (Nat.le_of_lt hjn)
            omega
          · subst h; exact hnj h3
          · have := next_mono hF (show j + 1 ≤ i from h) (Nat.le_of_lt hil)
            omega
    · have hjm : j = m := by
        rcases Nat.lt_trichotomy j m with h | h | h
        · exact absurd (hI.ph.old j o h ho h2) hnj
        · exact h
        · exfalso
          have hmn : m < ops.size := by omega
          obtain ⟨h3, h4⟩ := hI.ph.new ops[m] (by simp)
          exact h4 (ready_reach hI.closed hj ((hd.pair j m ops[m] o h (by simp) ho).2 (conflict_me (.inl ⟨h3, by omega⟩))))
      subst hjm
      have hlt : ∀ x, G.A x → x < (s j).next := by
        intro x hA
        rcases hI.laid x hA with h | ⟨i, h3, h4, h5⟩
        · exact Nat.lt_of_lt_of_le h (next_mono hF (Nat.zero_le j) (Nat.le_of_lt hjn))
        · have hil := inS_lt h3
          rw [hI.size] at hil
          rcases Nat.lt_trichotomy i j with h | h | h
          · exact Nat.lt_of_lt_of_le h5 (next_mono hF h (Nat.le_of_lt hjn))
          · subst h; exact absurd h3 hnj
          · exfalso
            have hx : ops[i]? = some ops[i] := by simp
            by_cases hci : clsO ops (ops[i]) = 0
            · have := ((hF.fact i _ hx).a hci).2.1
              omega
            · exact hnj (reach_in hI.closed ((hd.pair i j o ops[i] h ho hx).2 (conflict_me (.inl ⟨h2, hci⟩))) h3)
      obtain ⟨m', hm1, hm2, hm3, hm4⟩ := phase_next (ops.size - (j + 1)) ops.size (j + 1) rfl (by omega) (fun i => match ops[i]? with | some x => Nat.beq (clsO ops x) 2 | none => false)
      have hno : ∀ (k : Nat) x, j + 1 ≤ k → k < m' → ops[k]? = some x → clsO ops x ≠ 2 := by
        intro k x h1 h2 h3 h4
        have := hm3 k h1 h2
        simp [h3, h4] at this
      have hext := objs_ext hF (i := j + 1) (j := m') hm1 hm2 hno
      have hph : Phase ops (listed.setIfInBounds j true) m' := by
        refine ⟨hm2, fun i x hi hx hcx => ?_, fun x hx => ?_⟩
        · rcases Nat.lt_trichotomy i j with h | h | h
          · exact inS_set_mono (hI.ph.old i x h hx hcx)
          · subst h; exact getD_set_same hjl
          · exact absurd hcx (hno i x h hi hx)
        · have hlt' : m' < ops.size := (Array.getElem?_eq_some_iff.1 hx).1
          have hc2 := hm4 hlt'
          simp only [hx] at hc2
          have hc2 := Nat.eq_of_beq_eq_true hc2
          refine ⟨hc2, fun h => ?_⟩
          rcases inS_set h with h | rfl
          · exact hnj (reach_in hI.closed ((hd.pair m' j o x (by omega) ho hx).2 (conflict_me (.inl ⟨h2, by omega⟩))) h)
          · omega
      refine hf.e h2 w0 G w a _ Q hI.mem hsl hlt (fun G' u w' hM' hp hu hA => ?_)
      obtain ⟨hM2, hp2⟩ := mem_later hM' hA hext
      refine ih _ m' G' _ w' hcnt (inv_step hF hd hI ho hj hph hM2 (hp.trans hp2) ((av j).rep_pres hp2 _ hu) (fun x hx => ?_))
      right
      by_cases h0 : x < (s 0).next
      · exact .inl h0
      · obtain ⟨i, h3, h4, h5⟩ := range_of (s := s) (j + 1) x (by omega) (hA x hx)
        refine .inr ⟨i, ?_, h4, h5⟩
        rcases Nat.lt_or_ge i j with h | h
        · have hx' : ops[i]? = some ops[i] := by simp
          refine inS_set_mono (ready_reach hI.closed hj ((hd.pair j i ops[i] o h hx' ho).2 (conflict_me (.inr ⟨h2, fun hci => ?_⟩))))
          have := ((hF.fact i _ hx').a hci).2.1
          omega
        · have : i = j := by omega
          subst this
          exact getD_set_same hjl
/-- THE DRAWN REGION. -/
theorem draw_wpAny (hE : TOk P E) (nt : Nat) (w0 : Base) (ops : Array Oper) (K : St → Prop) (σ : St) (G : Gh) (a : Act) (w : World) (hok : drawOK ops = true)
    (h : evOps P E nt false ops ops.toList K σ) (hR : Rel w0 σ G nt a w) : wpAny P .any ops (Post w0 nt fun e σ' => e = .normal ∧ K σ') ops.size (Array.replicate ops.size false) a { w with drawn := w.drawn + 1 } := by
  obtain ⟨s, av, h1, h2, h3⟩ := evOps_trace hE ops.toList 0 σ (fun i o hi => by simpa using hi) hR.wf h
  have hF : Facts0 P nt ops s av := ⟨fun i o ho => by have := h2 i o (by simpa using ho); simpa using this, by rw [h1]; exact hR.wf, by rw [h1]; exact hR.lt⟩
  have hd := drawOK_spec hok
  simp only [Array.length_toList, Nat.zero_add] at h3
  have no : ∀ i, ¬ inS (Array.replicate ops.size false) i := fun i h => by
    unfold inS at h
    rw [Array.getD_eq_getD_getElem?, Array.getElem?_replicate] at h
    split at h <;> simp at h
  obtain ⟨m, _, hm2, hm3, hm4⟩ := phase_next (ops.size - 0) ops.size 0 rfl (by omega) (fun i => match ops[i]? with | some x => Nat.beq (clsO ops x) 2 | none => false)
  have hno : ∀ (k : Nat) x, 0 ≤ k → k < m → ops[k]? = some x → clsO ops x ≠ 2 := by
    intro k x h1 h2 h3 h4
    have := hm3 k h1 h2
    simp [h3, h4] at this
  have hM0 : Mem w0 σ.objs G { w with drawn := w.drawn + 1 } ∧ Pres σ.objs G w σ.objs G { w with drawn := w.drawn + 1 } :=
    hR.mem.step (fun id => Lv σ.objs G id) (fun _ => False) (fun id h => ⟨h, rfl⟩) ⟨rfl, rfl⟩ (fun id h => ⟨h, rfl, rfl, rfl⟩) (fun id h => .inl h) rfl rfl rfl (Nat.le_refl _) (fun b _ _ => rfl)
      (fun _ h => h.elim) (fun _ _ h => h.elim) (fun _ h => h.elim) (fun _ h => h.elim) (fun _ _ h => h.elim)
  have hlt : ∀ j, G.A j → j < (s 0).next := fun j hj => by rw [h1]; exact hR.fresh j hj
  obtain ⟨hM1, hp1⟩ := mem_later hM0.1 hR.fresh (by
    have := objs_ext hF (Nat.zero_le m) hm2 hno
    rw [h1] at this
    exact this)
  have hp := hM0.2.trans hp1
  refine draw_any (w0 := w0) hF hd (fun G' a' w' hR' => ⟨.normal, s ops.size, G', rfl, ⟨rfl, h3⟩, hR'⟩) ops.size _ m G a _ ?_ ⟨by simp, fun i o e hi => absurd hi (no i), ⟨hm2, fun i o hi ho hc => absurd hc (hno i o (Nat.zero_le _) hi ho), fun o ho => ⟨?_, no m⟩⟩, hM1, fun j hj => .inl (hlt j hj), fun i o k hi => absurd hi (no i), fun k u hu _ => ?_, hR.size, hR.defers⟩
  · exact Nat.le_trans List.countP_le_length (by simp)
  · have := hm4 (Array.getElem?_eq_some_iff.1 ho).1
    simp only [ho] at this
    exact Nat.eq_of_beq_eq_true this
  · rw [h1] at hu
    exact u.rep_pres hp _ (hR.env k u hu)
theorem draw_sound (hE : TOk P E) (hm : P.follows .mixedOrders = true) (nt : Nat) (w0 : Base) (id : Nat) (ops : Array Oper) (K : St → Prop) (σ : St) (G : Gh) (a : Act) (w : World) (hok : drawOK ops = true)
    (h : evOps P E nt false ops ops.toList K σ) (hR : Rel w0 σ G nt a w) : (Code.region id ops true).wp P (Post w0 nt fun e σ' => e = .normal ∧ K σ') a w :=
  wp_region_any hm (draw_wpAny hE nt w0 ops K σ G a w hok h hR)

end
end Go.Vm

namespace Go.Vm
open Go.RowKit

section
variable {P : Program} {E : Nat → Option TI} {nt : Nat} {w0 : Base} {ops : Array Oper}

def ovr (O : List (Nat × Ob)) (id : Nat) (c : Ob) : List (Nat × Ob) := (id, c) :: O
theorem ovr_same (O : List (Nat × Ob)) (id : Nat) (c : Ob) : get (ovr O id c) id = some c := get_cons_same _ _ _
theorem ovr_other (O : List (Nat × Ob)) (id : Nat) (c : Ob) {j : Nat} (h : j ≠ id) : get (ovr O id c) j = get O j := get_cons_other _ _ _ _ h
theorem ovr_eq {O : List (Nat × Ob)} {id : Nat} {c : Ob} (h : get O id = some c) (j : Nat) : get (ovr O id c) j = get O j := by
  by_cases e : j = id
  · subst e; rw [ovr_same, h]
  · exact ovr_other O id c e

theorem clsO_val {o : Oper} (h : isVal o.op = true) : clsO ops o = 1 := by
  obtain ⟨dst, op, type, pos, after, guard⟩ := o
  cases op with
  | call c =>
    obtain ⟨cal, args, argTypes⟩ := c
    cases cal with
    | value f =>
      unfold clsO
      split
      · rfl
      · rfl
    | builtin b => cases h
    | invoke r m => cases h
  | _ => cases h

/-- What an operation does that looks at nothing of the box. -/
def GoH (P : Program) (nt : Nat) (ops : Array Oper) (i : Nat) (o : Oper) (id : Nat) (σ : St) (v : AV) (σ' : St) : Prop :=
  ∀ (w0 : Base) O G w a (Kc : Act → World → Prop) (Q : Exit → Act → World → Prop), (∀ j ob, j ≠ id → get σ'.objs j = some ob → get O j = some ob) → Mem w0 O G w → Slots nt ops o σ.env O G w a →
    (∀ j, σ.next ≤ j → j < σ'.next → ¬ G.A j) →
    (∀ G' u w', Mem w0 O G' w' → Pres O G w O G' w' → v.rep O G' w' u → (∀ j, G'.A j → G.A j ∨ (σ.next ≤ j ∧ j < σ'.next)) → Kc (a.put o.dst u) w') → wpOp P ops Q i Kc a w
/-- What a call with a pointer to the box does. -/
def GoC (P : Program) (nt : Nat) (ops : Array Oper) (i : Nat) (o : Oper) (id : Nat) (σ : St) (v : AV) (σ' : St) : Prop :=
  ∀ (w0 : Base) O O' G w a (Kc : Act → World → Prop) (Q : Exit → Act → World → Prop), (∀ j ob, j ≠ id → get σ'.objs j = some ob → get O j = some ob) → get O id = get σ.objs id → (∀ j, j ≠ id → get O' j = get O j) → get O' id = get σ'.objs id →
    Mem w0 O G w → Slots nt ops o σ.env O G w a → (∀ j, σ.next ≤ j → j < σ'.next → ¬ G.A j) →
    (∀ G' u w', Mem w0 O' G' w' → Pres O G w O' G' w' → v.rep O' G' w' u → (∀ j, G'.A j → G.A j ∨ (σ.next ≤ j ∧ j < σ'.next)) → Kc (a.put o.dst u) w') → wpOp P ops Q i Kc a w

structure FactD (P : Program) (nt : Nat) (ops : Array Oper) (i : Nat) (o : Oper) (id : Nat) (σ : St) (v : AV) (σ' : St) : Prop where
  op : ops[i]? = some o
  dst : ∀ d, o.dst = some d → d < nt
  next : σ.next ≤ σ'.next
  wf : σ'.wf
  env : ∀ k u, get σ'.env k = some u → (o.dst = some k ∧ u = v) ∨ (o.dst ≠ some k ∧ get σ.env k = some u)
  has : (∃ c, get σ.objs id = some c) → ∃ c, get σ'.objs id = some c
  ext : clsO ops o ≠ 2 → ∀ j, j < σ.next → j ≠ id → get σ'.objs j = get σ.objs j
  keep : isVal o.op = false → get σ'.objs id = get σ.objs id
  a : clsO ops o = 0 → σ'.next = σ.next ∧ GoA P nt ops i o σ v
  b : clsO ops o = 1 → (get σ'.objs id = get σ.objs id ∧ GoH P nt ops i o id σ v σ') ∨ (isVal o.op = true ∧ GoC P nt ops i o id σ v σ')
  e : clsO ops o = 2 → GoE P nt ops i o σ v σ'

theorem wf_del {σ : St} (hw : σ.wf) (id : Nat) : St.wf ⟨σ.env, del σ.objs id, σ.next⟩ := fun j o ho => by
  by_cases e : j = id
  · subst e; simp only [get_del_same] at ho; cases ho
  · simp only [get_del_other _ _ _ e] at ho; exact hw j o ho

theorem hidO_fact (hE : TOk P E) {i id : Nat} {o : Oper} (hi : ops[i]? = some o) {σ : St} (hw : σ.wf) (hd : dstOk nt o.dst = true) (hg : o.guard = none) (h2 : clsO ops o ≠ 2) {K : AV → St → Prop} (h : hidO P E ops id o σ K) :
    ∃ av σ', K av σ' ∧ FactD P nt ops i o id σ av (σ'.put o.dst av) := by
  obtain ⟨ob, eob, h⟩ := need_some h
  have hid := hw id ob eob
  obtain ⟨av, σ1, hk, hf⟩ := fact_run (nt := nt) (τ := ⟨σ.env, del σ.objs id, σ.next⟩) hE hi (wf_del hw id) hd (fun _ _ h => h) rfl rfl (fun O G w a _ => by simp [Region.wanted, hg]) h
  obtain ⟨p1, p2, p3⟩ := put_st σ1 o.dst av
  obtain ⟨q1, q2, q3⟩ := put_st ⟨σ1.env, (id, ob) :: σ1.objs, σ1.next⟩ o.dst av
  have hnone : get σ1.objs id = none := by
    have := hf.ext h2 id hid
    rw [p1] at this
    rw [this]
    exact get_del_same _ _
  have henv : (St.put ⟨σ1.env, (id, ob) :: σ1.objs, σ1.next⟩ o.dst av).env = (σ1.put o.dst av).env := by cases o.dst <;> rfl
  have hsub : ∀ {O : List (Nat × Ob)}, (∀ j ob', j ≠ id → get (St.put ⟨σ1.env, (id, ob) :: σ1.objs, σ1.next⟩ o.dst av).objs j = some ob' → get O j = some ob') → ∀ j ob', get (σ1.put o.dst av).objs j = some ob' → get O j = some ob' := fun {O} hs j ob' hj => by
    rw [p1] at hj
    have hne : j ≠ id := fun e => by subst e; rw [hnone] at hj; cases hj
    exact hs j ob' hne (by rw [q1]; rw [← hj]; exact get_cons_other _ _ _ _ hne)
  have hn1 := hf.next
  rw [p2] at hn1
  refine ⟨av, _, hk, hi, hf.dst, by rw [q2]; exact hn1, q3 (fun j o' ho' => ?_), fun k u hu => hf.env k u (by rw [← henv]; exact hu), fun _ => ⟨ob, by rw [q1]; exact get_cons_same _ _ _⟩, fun _ j hj hne => ?_, fun _ => ?_, fun hc => ?_, fun hc => .inl ⟨?_, ?_⟩, fun hc => absurd hc h2⟩
  · by_cases e : j = id
    · subst e; exact Nat.lt_of_lt_of_le hid hn1
    · have hw1 := hf.wf
      have h3 : get σ1.objs j = some o' := by rw [← ho']; exact (get_cons_other _ _ _ _ e).symm
      have := hw1 j o' (by rw [p1]; exact h3)
      rw [p2] at this
      exact this
  · rw [q1]
    have h3 := hf.ext h2 j hj
    rw [p1] at h3
    exact (get_cons_other _ _ _ _ hne).trans (h3.trans (get_del_other _ _ _ hne))
  · rw [q1, eob]; exact get_cons_same _ _ _
  · obtain ⟨_, h4, h5⟩ := hf.a hc
    rw [p2] at h4
    exact ⟨by rw [q2]; exact h4, h5⟩
  · rw [q1, eob]; exact get_cons_same _ _ _
  · intro w0 O G w a Kc Q hs hM hsl hfr hK
    rw [q2] at hfr hK
    refine hf.b hc w0 O G w a Kc Q (hsub hs) hM hsl (by rw [p2]; exact hfr) (by rw [p2]; exact hK)

theorem curO_fact (_ : TOk P E) {i id : Nat} {o : Oper} (hi : ops[i]? = some o) {σ : St} (hw : σ.wf) (hd : dstOk nt o.dst = true) (hg : o.guard = none) (hv : isVal o.op = true) {K : AV → St → Prop} (h : opCur P (val σ.env) o.op id σ K) :
    ∃ av σ', K av σ' ∧ FactD P nt ops i o id σ av (σ'.put o.dst av) := by
  have hcl := clsO_val (ops := ops) hv
  obtain ⟨dst, op, type, pos, after, guard⟩ := o
  simp only at hg hv h hd hcl ⊢
  subst hg
  cases op <;> try (cases hv)
  rename_i c
  obtain ⟨cal, args, argTypes⟩ := c
  cases cal <;> try (cases hv)
  rename_i f
  obtain ⟨args⟩ := args
  simp only [opCur] at h
  have h' := need_some h; clear h
  obtain ⟨vf, ef, h⟩ := h'
  split at h
  case h_2 => exact h.elim
  rename_i fid
  split at h
  case h_2 => exact h.elim
  rename_i x rest
  have h' := need_some h; clear h
  obtain ⟨vx, ex, h⟩ := h'
  split at h
  case h_2 => exact h.elim
  rename_i i0
  rcases scase_out h with ⟨hb, h⟩ | ⟨_, h⟩
  case inr => exact h.elim
  have ei := Nat.eq_of_beq_eq_true hb
  subst ei
  have h' := need_some h; clear h
  obtain ⟨avs, eavs, h⟩ := h'
  have h' := need_some h; clear h
  obtain ⟨ob, eob, h⟩ := h'
  split at h
  case h_2 => exact h.elim
  rename_i ds
  have h' := need_some h; clear h
  obtain ⟨cs, ecs, h⟩ := h'
  have h' := need_some h; clear h
  obtain ⟨as, eas, cs', rs, hc, h⟩ := h'
  obtain ⟨hent, hc⟩ := hc
  have hid := hw i0 _ eob
  have hwf1 : St.wf ⟨σ.env, Vm.put σ.objs i0 (.box (cs'.map ancC)), σ.next⟩ := wf_put hw hid
  have hst := impR_st ⟨σ.env, Vm.put σ.objs i0 (.box (cs'.map ancC)), σ.next⟩ rs
  have hext := hst.1
  have hwf2 := hst.2 hwf1
  obtain ⟨q1, q2, q3⟩ := put_st ⟨σ.env, (impR ⟨σ.env, Vm.put σ.objs i0 (.box (cs'.map ancC)), σ.next⟩ rs).2.objs, (impR ⟨σ.env, Vm.put σ.objs i0 (.box (cs'.map ancC)), σ.next⟩ rs).2.next⟩ dst (impR ⟨σ.env, Vm.put σ.objs i0 (.box (cs'.map ancC)), σ.next⟩ rs).1
  have hbox : get (impR ⟨σ.env, Vm.put σ.objs i0 (.box (cs'.map ancC)), σ.next⟩ rs).2.objs i0 = some (.box (cs'.map ancC)) := by rw [hext.objs i0 hid]; exact get_put_same _ _ _
  refine ⟨_, _, h, hi, fun d e => ?_, by rw [q2]; exact hext.next, q3 (fun j ob hob => hwf2 j ob hob), fun k u hu => ?_, fun _ => ⟨_, by rw [q1]; exact hbox⟩, fun _ j hj hne => ?_, (fun hh => by cases hh), (fun hc0 => by rw [hcl] at hc0; cases hc0), fun _ => .inr ⟨rfl, ?_⟩, (fun hc0 => by rw [hcl] at hc0; cases hc0)⟩
  · have e' : dst = some d := e
    rw [e'] at hd
    have : d + 1 ≤ nt := by simpa [dstOk, Nat.blt] using hd
    exact this
  · exact put_env (σ := σ) (τ := σ) (σ' := ⟨σ.env, (impR ⟨σ.env, Vm.put σ.objs i0 (.box (cs'.map ancC)), σ.next⟩ rs).2.objs, (impR ⟨σ.env, Vm.put σ.objs i0 (.box (cs'.map ancC)), σ.next⟩ rs).2.next⟩) (o := ⟨dst, .call { callee := .value f, args := ⟨x :: rest⟩, argTypes }, type, pos, after, none⟩) (fun _ _ h => h) rfl k u hu
  · rw [q1]
    show get (impR ⟨σ.env, Vm.put σ.objs i0 (.box (cs'.map ancC)), σ.next⟩ rs).2.objs j = _
    rw [hext.objs j hj]
    exact get_put_other _ _ _ _ hne
  · intro w0 O O' G w a Kc Q hs hO1 hO2 hO3 hM hsl hfr hK
    rw [q2] at hfr hK
    rw [q1] at hs hO3
    simp only at hs hO3
    rw [hbox] at hO3
    rw [eob] at hO1
    have hops := Slots.opsRep hsl
    have hfo : f ∈ (Op.call { callee := .value f, args := ⟨x :: rest⟩, argTypes }).operands := by simp [Op.operands, Call.operands]
    obtain ⟨hfv, _⟩ := hops f hfo _ ef
    have hxr := hops x (by simp [Op.operands, Call.operands]) _ ex
    simp only [AV.rep] at hxr
    obtain ⟨hA, ad, hφ, hxv⟩ := hxr
    obtain ⟨g, us, e, b1, b2, b3, b4, b5⟩ := hM.obs i0 _ hA hO1
    have had : a.eval x = .pointer (some ⟨g, 0, none⟩) := by
      rw [hφ] at b1
      injection b1 with b1
      injection b1 with b1
      subst b1
      rw [hxv]
      have : (⟨g, 0, none⟩ : Addr).add 0 = ⟨g, 0, none⟩ := by unfold Addr.add; simp
      rw [this]
    obtain ⟨F, hF, himm, hold0⟩ := cellsT_rep ecs b3
    have hlv : Lv O G i0 := ⟨hA, _, hO1⟩
    have hgh : g ∈ G.h i0 := by rw [b5]; simp
    have hgF : g ∉ F := fun hb => himm i0 hlv g hb hgh
    have hargs := vals_rep (O := O) (G := G) (w := w) (a := a) eavs (fun y hy => hops y (by simp only [Op.operands, Call.operands]; simp [hy]))
    have hsub : ∀ j ob, j ≠ i0 → get σ.objs j = some ob → get O j = some ob := fun j ob hne hj => hs j ob hne (by rw [hext.objs j (hw j ob hj)]; exact (get_put_other _ _ _ _ hne).trans hj)
    have hvs := argWs_sound hM hA hO1 hgh (argW_mono eob hsub avs eas) hargs
    unfold wpOp
    simp only [hi, Region.wanted, if_true]
    refine .inl ?_
    have hrun := run_call (P := P) (dst := dst) (type := type) (pos := pos) (after := after) (guard := none) hent (fo := f) (args := ⟨x :: rest⟩) (argTypes := argTypes) (a := a) (caps := []) (by simpa using hfv) w
    unfold Oper.wp
    rw [hrun]
    show Calls P fid _ w _
    rw [List.append_nil, List.map_cons, had]
    refine (hc w g us e F _ b2 hF hgF hvs).mono fun ex w' hpost => ?_
    obtain ⟨out, F', us', Fc, v, rfl, hret, hout, hnd0, hfresh, ⟨e', hheap'⟩, hcs', hFc, hbel⟩ := hpost
    obtain ⟨l, imp⟩ := impR_sound hwf1 hout hret
    have hnx := imp.next
    have hlt : ∀ j, σ.next ≤ j → j < σ.next + l.length → ¬ G.A j := fun j h1 h2 => hfr j h1 (by rw [hnx]; exact h2)
    obtain ⟨hM', hp'⟩ := cur_step (O' := O') hM hA hO1 b1 b2 b4 b5 hF himm hold0 hnd0 hfresh hheap' hcs' hFc hbel imp hlt hO3 (fun j _ hne => hO2 j hne) (fun k hk => by
      have hne : σ.next + k ≠ i0 := by omega
      obtain ⟨o', ho'⟩ := imp.have_ k hk
      show get O' (σ.next + k) = get (impR ⟨σ.env, Vm.put σ.objs i0 (.box (cs'.map ancC)), σ.next⟩ rs).2.objs (σ.next + k)
      have ho2 : get (impR ⟨σ.env, Vm.put σ.objs i0 (.box (cs'.map ancC)), σ.next⟩ rs).2.objs (σ.next + k) = some o' := ho'
      rw [hO2 _ hne, ho2]
      exact hs _ _ hne ho2)
    refine hK _ v w' hM' hp' (imp.rep _ _ fun k hk => ?_) (fun j hj => ?_)
    · have hn := Gh.addL_new (G := G) (n := σ.next) hk
      exact ⟨.inr ⟨by show σ.next ≤ σ.next + k; omega, by show σ.next + k < σ.next + l.length; omega⟩, hn.1⟩
    · rcases hj with hj | hj
      · exact .inl hj
      · exact .inr ⟨hj.1, by rw [hnx]; exact hj.2⟩

theorem evOpsD_trace (hE : TOk P E) {id : Nat} {K : St → Prop} : ∀ (l : List Oper) (p : Nat) (σ : St), (∀ i o, l[i]? = some o → ops[p + i]? = some o) → σ.wf → evOpsD P E nt ops id l K σ →
    ∃ (s : Nat → St) (av : Nat → AV), s p = σ ∧ (∀ i o, l[i]? = some o → FactD P nt ops (p + i) o id (s (p + i)) (av (p + i)) (s (p + i + 1))) ∧ K (s (p + l.length))
  | [], p, σ, _, _, h => ⟨fun _ => σ, fun _ => .junk, rfl, by simp, h⟩
  | o :: rest, p, σ, hl, hw, h => by
    have hi : ops[p]? = some o := by simpa using hl 0 o (by simp)
    simp only [evOpsD, putK_eq] at h
    rcases scase_out h with ⟨hd0, h⟩ | ⟨_, h⟩
    case inr => exact h.elim
    simp only [Bool.and_eq_true] at hd0
    obtain ⟨hd, hgg⟩ := hd0
    have hg : o.guard = none := by unfold noG at hgg; split at hgg <;> first | assumption | cases hgg
    have next : ∀ {v : AV} {σ' : St}, FactD P nt ops p o id σ v σ' → evOpsD P E nt ops id rest K σ' → ∃ (s : Nat → St) (av : Nat → AV), s p = σ ∧ (∀ i q, (o :: rest)[i]? = some q → FactD P nt ops (p + i) q id (s (p + i)) (av (p + i)) (s (p + i + 1))) ∧ K (s (p + (o :: rest).length)) := by
      intro v σ' hf h
      obtain ⟨s, av, h1, h2, h3⟩ := evOpsD_trace hE rest (p + 1) σ' (fun i q hq => by
        have := hl (i + 1) q (by simpa using hq)
        rw [show p + 1 + i = p + (i + 1) by omega]; exact this) hf.wf h
      refine ⟨fun i => if i = p then σ else s i, fun i => if i = p then v else av i, by simp, fun i q hq => ?_, ?_⟩
      · cases i with
        | zero =>
          simp at hq
          subst hq
          simpa [h1] using hf
        | succ i =>
          have := h2 i q (by simpa using hq)
          rw [show p + 1 + i = p + (i + 1) by omega] at this
          have e1 : p + (i + 1) ≠ p := by omega
          have e2 : p + (i + 1) + 1 ≠ p := by omega
          simp only [e1, e2, if_false]
          exact this
      · have e1 : p + (rest.length + 1) ≠ p := by omega
        simp only [List.length_cons, e1, if_false]
        rw [show p + (rest.length + 1) = p + 1 + rest.length by omega]
        exact h3
    unfold evOpD at h
    split at h
    · rename_i hv
      rcases h with h | h
      · obtain ⟨av, σ', hk, hf⟩ := curO_fact (nt := nt) hE hi hw hd hg hv h
        exact next hf hk
      · obtain ⟨av, σ', hk, hf⟩ := hidO_fact (nt := nt) hE hi hw hd hg (by rw [clsO_val hv]; decide) h
        exact next hf hk
    · rename_i hv
      split at h
      · rename_i hb
        have hc2 := Nat.eq_of_beq_eq_true hb
        obtain ⟨av, σ', ⟨hkeep, hk⟩, hf⟩ := fact_run (nt := nt) hE hi hw hd (fun _ _ h => h) rfl rfl (fun O G w a _ => by simp [Region.wanted, hg]) h
        obtain ⟨p1, p2, p3⟩ := put_st σ' o.dst av
        exact next ⟨hf.op, hf.dst, hf.next, hf.wf, hf.env, fun ⟨c, hc⟩ => ⟨c, by rw [p1, hkeep]; exact hc⟩, fun hc => absurd hc2 hc, fun _ => by rw [p1]; exact hkeep, (fun hc => by omega), (fun hc => by omega), hf.e⟩ hk
      · rename_i hb
        obtain ⟨av, σ', hk, hf⟩ := hidO_fact (nt := nt) hE hi hw hd hg (fun e => by rw [e] at hb; cases hb) h
        exact next hf hk

/-! ### Any order -/
structure FactsD (P : Program) (nt : Nat) (ops : Array Oper) (id : Nat) (s : Nat → St) (av : Nat → AV) : Prop where
  fact : ∀ (i : Nat) o, ops[i]? = some o → FactD P nt ops i o id (s i) (av i) (s (i + 1))
  wf : (s 0).wf
  lt : ∀ k u, get (s 0).env k = some u → k < nt ∨ isFrm u = true
  box : ∃ c, get (s 0).objs id = some c

structure InvD (w0 : Base) (nt : Nat) (ops : Array Oper) (id : Nat) (s : Nat → St) (av : Nat → AV) (listed : Array Bool) (m : Nat) (c : Ob) (G : Gh) (a : Act) (w : World) : Prop where
  size : listed.size = ops.size
  closed : ∀ (i : Nat) o e, inS listed i → ops[i]? = some o → e ∈ o.after → Region.binds .any e = true → inS listed e.on
  ph : Phase ops listed m
  mem : Mem w0 (ovr (s m).objs id c) G w
  laid : ∀ j, G.A j → j < (s 0).next ∨ ∃ i, inS listed i ∧ (s i).next ≤ j ∧ j < (s (i + 1)).next
  done : ∀ (i : Nat) o k, inS listed i → ops[i]? = some o → o.dst = some k → (av i).rep (ovr (s m).objs id c) G w (a.tmps.getD k undef)
  kept : ∀ k u, get (s 0).env k = some u → (∀ (i : Nat) o, inS listed i → ops[i]? = some o → o.dst ≠ some k) → u.rep (ovr (s m).objs id c) G w (a.tmps.getD k undef)
  cur : ∃ q, q ≤ ops.size ∧ get (s q).objs id = some c ∧ (∀ (i : Nat) o, i < q → ops[i]? = some o → isVal o.op = true → inS listed i) ∧ ∀ (i : Nat) o, q ≤ i → ops[i]? = some o → isVal o.op = true → ¬ inS listed i
  tmps : a.tmps.size = nt
  defers : a.defers = []

variable {s : Nat → St} {av : Nat → AV} {id : Nat}

theorem next_monoD (hF : FactsD P nt ops id s av) : ∀ {i j : Nat}, i ≤ j → j ≤ ops.size → (s i).next ≤ (s j).next := by
  intro i j hij hj
  induction j with
  | zero => have : i = 0 := by omega
            subst this; exact Nat.le_refl _
  | succ j ih =>
    rcases Nat.lt_or_ge i (j + 1) with h | h
    · refine Nat.le_trans (ih (by omega) (by omega)) ?_
      exact (hF.fact j ops[j] (by simp)).next
    · have : i = j + 1 := by omega
      subst this; exact Nat.le_refl _
theorem wf_allD (hF : FactsD P nt ops id s av) {j : Nat} (hj : j ≤ ops.size) : (s j).wf := by
  cases j with
  | zero => exact hF.wf
  | succ j => exact (hF.fact j ops[j] (by simp)).wf
theorem has_box (hF : FactsD P nt ops id s av) : ∀ {j : Nat}, j ≤ ops.size → ∃ c, get (s j).objs id = some c := by
  intro j
  induction j with
  | zero => intro _; exact hF.box
  | succ j ih => intro hj; exact (hF.fact j ops[j] (by simp)).has (ih (by omega))
theorem objs_extD (hF : FactsD P nt ops id s av) : ∀ {i j : Nat}, i ≤ j → j ≤ ops.size → (∀ (k : Nat) o, i ≤ k → k < j → ops[k]? = some o → clsO ops o ≠ 2) → ∀ x, x < (s i).next → x ≠ id → get (s j).objs x = get (s i).objs x := by
  intro i j hij hj hno x hx hne
  induction j with
  | zero => have : i = 0 := by omega
            subst this; rfl
  | succ j ih =>
    rcases Nat.lt_or_ge i (j + 1) with h | h
    · have h1 := (hF.fact j ops[j] (by simp)).ext (hno j _ (by omega) (by omega) (by simp)) x (Nat.lt_of_lt_of_le hx (next_monoD hF (by omega) (by omega))) hne
      rw [h1]
      exact ih (by omega) (by omega) (fun k o a b c => hno k o a (by omega) c)
    · have : i = j + 1 := by omega
      subst this; rfl
/-- No call between: the box shows the same. -/
theorem box_const (hF : FactsD P nt ops id s av) : ∀ {i j : Nat}, i ≤ j → j ≤ ops.size → (∀ (k : Nat) o, i ≤ k → k < j → ops[k]? = some o → isVal o.op = false) → get (s j).objs id = get (s i).objs id := by
  intro i j hij hj hno
  induction j with
  | zero => have : i = 0 := by omega
            subst this; rfl
  | succ j ih =>
    rcases Nat.lt_or_ge i (j + 1) with h | h
    · rw [(hF.fact j ops[j] (by simp)).keep (hno j _ (by omega) (by omega) (by simp))]
      exact ih (by omega) (by omega) (fun k o a b c => hno k o a (by omega) c)
    · have : i = j + 1 := by omega
      subst this; rfl
theorem env_atD (hF : FactsD P nt ops id s av) : ∀ {j : Nat}, j ≤ ops.size → ∀ k u, get (s j).env k = some u →
    (∃ i o, i < j ∧ ops[i]? = some o ∧ o.dst = some k ∧ u = av i) ∨ ((∀ (i : Nat) o, i < j → ops[i]? = some o → o.dst ≠ some k) ∧ get (s 0).env k = some u) := by
  intro j
  induction j with
  | zero => intro _ k u h; exact .inr ⟨fun i o h => by omega, h⟩
  | succ j ih =>
    intro hj k u h
    rcases (hF.fact j ops[j] (by simp)).env k u h with ⟨h1, h2⟩ | ⟨h1, h2⟩
    · exact .inl ⟨j, ops[j], by omega, by simp, h1, h2⟩
    · rcases ih (by omega) k u h2 with ⟨i, o, h3, h4⟩ | ⟨h3, h4⟩
      · exact .inl ⟨i, o, by omega, h4⟩
      · refine .inr ⟨fun i o hi ho => ?_, h4⟩
        rcases Nat.lt_or_ge i j with h | h
        · exact h3 i o h ho
        · have : i = j := by omega
          subst this
          have hio : i < ops.size := by omega
          rw [Array.getElem?_eq_getElem hio] at ho
          injection ho with ho
          rw [← ho]
          exact h1

theorem not_listed {listed : Array Bool} (hsz : listed.size = ops.size) {j : Nat} (hjn : j < ops.size) (hj : j ∈ Region.ready .any ops listed) : ¬ inS listed j := by
  have := (mem_ready.1 hj).1
  unfold inS
  rw [Array.getD_eq_getD_getElem?] at this ⊢
  rw [Array.getElem?_eq_getElem (by rw [hsz]; exact hjn)] at this ⊢
  simp at this ⊢
  exact this
theorem slots_atD (hF : FactsD P nt ops id s av) (hd : DrawOK ops) {listed : Array Bool} {m : Nat} {c : Ob} {G : Gh} {a : Act} {w : World} (hI : InvD w0 nt ops id s av listed m c G a w) {j : Nat} {o : Oper} (ho : ops[j]? = some o) (hj : j ∈ Region.ready .any ops listed) :
    Slots nt ops o (s j).env (ovr (s m).objs id c) G w a := by
  have hjn : j < ops.size := (Array.getElem?_eq_some_iff.1 ho).1
  have hnj := not_listed hI.size hjn hj
  refine ⟨hI.tmps, fun k hk u hu => ?_⟩
  rcases env_atD hF (Nat.le_of_lt hjn) k u hu with ⟨i, x, h1, h2, h3, rfl⟩ | ⟨h1, h2⟩
  · have hc : conflict ops x o = true := by simp [conflict, h3, dstIn, memN_iff.2 hk]
    have := ready_reach hI.closed hj ((hd.pair j i x o h1 h2 ho).2 hc)
    exact ⟨.inl ((hF.fact i x h2).dst k h3), hI.done i x k this h2 h3⟩
  · refine ⟨hF.lt k u h2, hI.kept k u h2 (fun i x hi hx hdx => ?_)⟩
    rcases Nat.lt_or_ge i j with h | h
    · exact h1 i x h hx hdx
    · have hne : i ≠ j := fun e => by subst e; exact hnj hi
      have hc : conflict ops o x = true := by simp [conflict, hdx, dstIn, memN_iff.2 hk]
      exact hnj (reach_in hI.closed ((hd.pair i j o x (by omega) ho hx).2 hc) hi)

/-- One operation more. -/
theorem inv_stepD (hF : FactsD P nt ops id s av) (hd : DrawOK ops) {listed : Array Bool} {m m' : Nat} {c c' : Ob} {G G' : Gh} {a : Act} {w w' : World} (hI : InvD w0 nt ops id s av listed m c G a w) {j : Nat} {o : Oper} (ho : ops[j]? = some o) (hj : j ∈ Region.ready .any ops listed)
    (hph : Phase ops (listed.setIfInBounds j true) m') (hM : Mem w0 (ovr (s m').objs id c') G' w') (hp : Pres (ovr (s m).objs id c) G w (ovr (s m').objs id c') G' w') {v : Value} (hv : (av j).rep (ovr (s m').objs id c') G' w' v)
    (hA : ∀ x, G'.A x → G.A x ∨ (x < (s 0).next ∨ ∃ i, inS (listed.setIfInBounds j true) i ∧ (s i).next ≤ x ∧ x < (s (i + 1)).next))
    (hcur : ∃ q, q ≤ ops.size ∧ get (s q).objs id = some c' ∧ (∀ (i : Nat) o, i < q → ops[i]? = some o → isVal o.op = true → inS (listed.setIfInBounds j true) i) ∧ ∀ (i : Nat) o, q ≤ i → ops[i]? = some o → isVal o.op = true → ¬ inS (listed.setIfInBounds j true) i) :
    InvD w0 nt ops id s av (listed.setIfInBounds j true) m' c' G' (a.put o.dst v) w' := by
  have hjn : j < ops.size := (Array.getElem?_eq_some_iff.1 ho).1
  have hjl : j < listed.size := by rw [hI.size]; exact hjn
  obtain ⟨_, o', ho', hall⟩ := mem_ready.1 hj
  rw [ho] at ho'
  injection ho' with ho'
  subst ho'
  have hfj := hF.fact j o ho
  have slot : ∀ {k : Nat}, o.dst ≠ some k → (a.put o.dst v).tmps.getD k undef = a.tmps.getD k undef := by
    intro k hk
    cases hdo : o.dst with
    | none => rfl
    | some d => exact getD_put_other (fun e => hk (by rw [hdo, e]))
  refine ⟨by simp [hI.size], fun i x e hi hx he hb => ?_, hph, hM, fun x hx => ?_, fun i x k hi hx hk => ?_, fun k u hu hno => ?_, hcur, ?_, ?_⟩
  · rcases inS_set hi with hi | rfl
    · exact inS_set_mono (hI.closed i x e hi hx he hb)
    · rw [ho] at hx
      injection hx with hx
      subst hx
      exact inS_set_mono (hall e he hb)
  · rcases hA x hx with h | h
    · rcases hI.laid x h with h | ⟨i, h1, h2⟩
      · exact .inl h
      · exact .inr ⟨i, inS_set_mono h1, h2⟩
    · exact h
  · by_cases e : i = j
    · subst e
      rw [ho] at hx
      injection hx with hx
      subst hx
      rw [hk, getD_put_same (by rw [hI.tmps]; exact hfj.dst k hk)]
      exact hv
    · have hi' : inS listed i := (inS_set hi).resolve_right e
      have hne : o.dst ≠ some k := by
        intro hok
        rcases Nat.lt_or_ge i j with h | h
        · exact (hd.pair j i x o h hx ho).1 k hk hok
        · exact (hd.pair i j o x (by omega) ho hx).1 k hok hk
      rw [slot hne]
      exact (av i).rep_pres hp _ (hI.done i x k hi' hx hk)
  · have hne : o.dst ≠ some k := hno j o (getD_set_same hjl) ho
    rw [slot hne]
    exact u.rep_pres hp _ (hI.kept k u hu (fun i x hi hx => hno i x (inS_set_mono hi) hx))
  · rw [← hI.tmps]
    cases o.dst <;> simp [Act.put]
  · rw [← hI.defers]
    cases o.dst <;> rfl

theorem conflict_val {x y : Oper} (hx : isVal x.op = true) (hy : isVal y.op = true) : conflict ops x y = true := by unfold conflict; rw [hx, hy]; rfl

/-- The box's cells ahead of an operation that is ordered against all calls. -/
theorem cur_at (hF : FactsD P nt ops id s av) (hd : DrawOK ops) {listed : Array Bool} {m : Nat} {c : Ob} {G : Gh} {a : Act} {w : World} (hI : InvD w0 nt ops id s av listed m c G a w) {j : Nat} {o : Oper} (ho : ops[j]? = some o) (hj : j ∈ Region.ready .any ops listed)
    (hcf : ∀ x, isVal x.op = true → conflict ops x o = true ∧ conflict ops o x = true) : get (s j).objs id = some c ∧ (∀ (i : Nat) x, i < j → ops[i]? = some x → isVal x.op = true → inS listed i) ∧ ∀ (i : Nat) x, j ≤ i → ops[i]? = some x → isVal x.op = true → ¬ inS listed i := by
  have hjn : j < ops.size := (Array.getElem?_eq_some_iff.1 ho).1
  have hnj := not_listed hI.size hjn hj
  have before : ∀ (i : Nat) x, i < j → ops[i]? = some x → isVal x.op = true → inS listed i := fun i x hi hx hv => ready_reach hI.closed hj ((hd.pair j i x o hi hx ho).2 (hcf x hv).1)
  have after : ∀ (i : Nat) x, j ≤ i → ops[i]? = some x → isVal x.op = true → ¬ inS listed i := fun i x hi hx hv hin => by
    rcases Nat.lt_or_ge j i with h | h
    · exact hnj (reach_in hI.closed ((hd.pair i j o x h ho hx).2 (hcf x hv).2) hin)
    · have : i = j := by omega
      subst this
      exact hnj hin
  obtain ⟨q, hq1, hq2, hq3, hq4⟩ := hI.cur
  refine ⟨?_, before, after⟩
  rcases Nat.lt_or_ge j q with h | h
  · rw [← hq2]
    refine (box_const hF (Nat.le_of_lt h) hq1 (fun k x h1 h2 hx => ?_)).symm
    cases hv : isVal x.op with
    | false => rfl
    | true => exact absurd (hq3 k x h2 hx hv) (after k x h1 hx hv)
  · rw [← hq2]
    refine box_const hF h (Nat.le_of_lt hjn) (fun k x h1 h2 hx => ?_)
    cases hv : isVal x.op with
    | false => rfl
    | true => exact absurd (before k x h2 hx hv) (hq4 k x h1 hx hv)

theorem draw_anyD (hF : FactsD P nt ops id s av) (hd : DrawOK ops) {Q : Exit → Act → World → Prop} (hQ : ∀ G a w, Rel w0 (s ops.size) G nt a w → Q .normal a w) :
    ∀ (fuel : Nat) (listed : Array Bool) (m : Nat) (c : Ob) (G : Gh) (a : Act) (w : World), (List.range ops.size).countP (fun i => !listed.getD i false) ≤ fuel → InvD w0 nt ops id s av listed m c G a w → wpAny P .any ops Q fuel listed a w := by
  have fin : ∀ (listed : Array Bool) (m : Nat) (c : Ob) (G : Gh) (a : Act) (w : World), InvD w0 nt ops id s av listed m c G a w → Region.ready .any ops listed = [] → Q .normal a w := by
    intro listed m c G a w hI hr
    have all : ∀ i, i < ops.size → inS listed i := by
      intro i
      induction i using Nat.strongRecOn with
      | ind i ih =>
        intro hi
        by_cases h : inS listed i
        · exact h
        · exfalso
          have : i ∈ Region.ready .any ops listed := mem_ready.2 ⟨by
            unfold inS at h
            rw [Array.getD_eq_getD_getElem?] at h ⊢
            rw [Array.getElem?_eq_getElem (by rw [hI.size]; exact hi)] at h ⊢
            simpa using h, ops[i], by simp, fun e he hb => by
              have hlt := hd.back i ops[i] e (by simp) he hb
              exact ih e.on hlt (by omega)⟩
          rw [hr] at this
          cases this
    have hm : m = ops.size := by
      rcases Nat.lt_or_ge m ops.size with h | h
      · exact absurd (all m h) (hI.ph.new ops[m] (by simp)).2
      · have := hI.ph.le; omega
    have hm' := hm
    subst hm
    obtain ⟨q, hq1, hq2, _, hq4⟩ := hI.cur
    have hc : get (s ops.size).objs id = some c := by
      rw [← hq2]
      refine box_const hF hq1 (Nat.le_refl _) (fun k x h1 h2 hx => ?_)
      cases hv : isVal x.op with
      | false => rfl
      | true => exact absurd (all k h2) (hq4 k x h1 hx hv)
    have hlaid : ∀ j, G.A j → j < (s ops.size).next := fun j hj => by
      rcases hI.laid j hj with h | ⟨i, h1, h2, h3⟩
      · exact Nat.lt_of_lt_of_le h (next_monoD hF (Nat.zero_le _) (Nat.le_refl _))
      · have hi := inS_lt h1
        rw [hI.size] at hi
        exact Nat.lt_of_lt_of_le h3 (next_monoD hF (by omega) (Nat.le_refl _))
    obtain ⟨hM2, hp2⟩ := mem_later hI.mem hlaid (fun x _ => (ovr_eq hc x).symm)
    refine hQ G a w ⟨hM2, fun k u hu => ?_, fun k u hu => ?_, hI.tmps, hlaid, wf_allD hF (Nat.le_refl _), hI.defers⟩
    · rcases env_atD hF (Nat.le_refl _) k u hu with ⟨i, x, h1, h2, h3, rfl⟩ | ⟨h1, h2⟩
      · exact (av i).rep_pres hp2 _ (hI.done i x k (all i h1) h2 h3)
      · exact u.rep_pres hp2 _ (hI.kept k u h2 (fun i x hi hx => h1 i x (Array.getElem?_eq_some_iff.1 hx).1 hx))
    · rcases env_atD hF (Nat.le_refl _) k u hu with ⟨i, x, h1, h2, h3, rfl⟩ | ⟨h1, h2⟩
      · exact .inl ((hF.fact i x h2).dst k h3)
      · exact hF.lt k u h2
  intro fuel
  induction fuel with
  | zero =>
    intro listed m c G a w hcn hI
    have hr : Region.ready .any ops listed = [] := by
      refine List.eq_nil_iff_forall_not_mem.2 (fun j hj => ?_)
      obtain ⟨h1, o, h2, _⟩ := mem_ready.1 hj
      have hjn : j < ops.size := (Array.getElem?_eq_some_iff.1 h2).1
      have h0 : (List.range ops.size).countP (fun i => !listed.getD i false) = 0 := by omega
      have := List.countP_eq_zero.1 h0 j (by simp [hjn])
      rw [Array.getD_eq_getD_getElem?] at h1 this
      rw [Array.getElem?_eq_getElem (by rw [hI.size]; exact hjn)] at h1 this
      simp at h1 this
      rw [h1] at this
      cases this
    exact ⟨hr, fin listed m c G a w hI hr⟩
  | succ fuel ih =>
    intro listed m c G a w hcn hI
    refine ⟨fin listed m c G a w hI, fun j hj => ?_⟩
    obtain ⟨hun, o, ho, _⟩ := mem_ready.1 hj
    have hjn : j < ops.size := (Array.getElem?_eq_some_iff.1 ho).1
    have hjl : j < listed.size := by rw [hI.size]; exact hjn
    have hnj := not_listed hI.size hjn hj
    have hcnt : (List.range ops.size).countP (fun i => !(listed.setIfInBounds j true).getD i false) ≤ fuel := by
      have := countP_lt (p := fun i => !listed.getD i false) (q := fun i => !(listed.setIfInBounds j true).getD i false) (l := List.range ops.size) (x := j) (fun y _ hy => by
        by_cases h : inS listed y
        · have := inS_set_mono (i := j) h
          unfold inS at this
          rw [this] at hy
          cases hy
        · unfold inS at h
          cases hb : listed.getD y false with
          | true => exact absurd hb h
          | false => rfl) (by simp [hjn]) (by unfold inS at hnj; cases hb : listed.getD j false with | true => exact absurd hb hnj | false => rfl)
          (by have := getD_set_same hjl; unfold inS at this; simp [this])
      omega
    have hf := hF.fact j o ho
    have hsl := slots_atD hF hd hI ho hj
    have same : clsO ops o ≠ 2 → Phase ops (listed.setIfInBounds j true) m := fun h2 => ⟨hI.ph.le, fun i x hi hx hcx => inS_set_mono (hI.ph.old i x hi hx hcx), fun x hx => by
      obtain ⟨h3, h4⟩ := hI.ph.new x hx
      refine ⟨h3, fun h5 => ?_⟩
      rcases inS_set h5 with h5 | rfl
      · exact h4 h5
      · rw [ho] at hx; injection hx with hx; subst hx; exact h2 h3⟩
    -- the box where the operation is no call
    have curN : isVal o.op = false → ∃ q, q ≤ ops.size ∧ get (s q).objs id = some c ∧ (∀ (i : Nat) o, i < q → ops[i]? = some o → isVal o.op = true → inS (listed.setIfInBounds j true) i) ∧ ∀ (i : Nat) o, q ≤ i → ops[i]? = some o → isVal o.op = true → ¬ inS (listed.setIfInBounds j true) i := fun hv => by
      obtain ⟨q, h1, h2, h3, h4⟩ := hI.cur
      refine ⟨q, h1, h2, fun i x hi hx hvx => inS_set_mono (h3 i x hi hx hvx), fun i x hi hx hvx hin => ?_⟩
      rcases inS_set hin with h5 | rfl
      · exact h4 i x hi hx hvx h5
      · rw [ho] at hx; injection hx with hx; subst hx; rw [hv] at hvx; cases hvx
    have curV : isVal o.op = true → ∀ c', get (s (j + 1)).objs id = some c' → ∃ q, q ≤ ops.size ∧ get (s q).objs id = some c' ∧ (∀ (i : Nat) o, i < q → ops[i]? = some o → isVal o.op = true → inS (listed.setIfInBounds j true) i) ∧ ∀ (i : Nat) o, q ≤ i → ops[i]? = some o → isVal o.op = true → ¬ inS (listed.setIfInBounds j true) i := fun hv c' hc' => by
      obtain ⟨_, h3, h4⟩ := cur_at hF hd hI ho hj (fun x hx => ⟨conflict_val hx hv, conflict_val hv hx⟩)
      refine ⟨j + 1, hjn, hc', fun i x hi hx hvx => ?_, fun i x hi hx hvx hin => ?_⟩
      · rcases Nat.lt_or_ge i j with h | h
        · exact inS_set_mono (h3 i x h hx hvx)
        · have : i = j := by omega
          subst this
          exact getD_set_same hjl
      · rcases inS_set hin with h5 | h5
        · exact h4 i x (by omega) hx hvx h5
        · omega
    rcases clsO_le ops o with h0 | h1 | h2
    · obtain ⟨_, hg⟩ := hf.a h0
      have hv : isVal o.op = false := by
        cases hv : isVal o.op with
        | false => rfl
        | true => rw [clsO_val hv] at h0; cases h0
      refine hg _ G w a _ Q hsl (fun u hu => ih _ m c G _ w hcnt (inv_stepD hF hd hI ho hj (same (by omega)) hI.mem Pres.refl hu (fun x hx => .inl hx) (curN hv)))
    · have hjm : j < m := by
        rcases Nat.lt_or_ge j m with h | h
        · exact h
        · exfalso
          have hmn : m < ops.size := by omega
          obtain ⟨h3, h4⟩ := hI.ph.new ops[m] (by simp)
          have hne : m ≠ j := fun e => by
            subst e
            rw [Array.getElem?_eq_getElem hmn] at ho
            injection ho with ho
            rw [ho] at h3
            omega
          exact h4 (ready_reach hI.closed hj ((hd.pair j m ops[m] o (by omega) (by simp) ho).2 (conflict_me (.inl ⟨h3, by omega⟩))))
      have hext := objs_extD hF (i := j + 1) (j := m) (by omega) hI.ph.le (fun k x hk1 hk2 hx hcx => by
        have hk := hI.ph.old k x hk2 hx hcx
        exact hnj (reach_in hI.closed ((hd.pair k j o x (by omega) ho hx).2 (conflict_me (.inr ⟨hcx, by omega⟩))) hk))
      have hobj : ∀ x ob, x ≠ id → get (s (j + 1)).objs x = some ob → get (ovr (s m).objs id c) x = some ob := fun x ob hne hob => by
        rw [ovr_other _ _ _ hne, hext x (hf.wf x ob hob) hne]; exact hob
      have hfresh : ∀ x, (s j).next ≤ x → x < (s (j + 1)).next → ¬ G.A x := fun x hx1 hx2 hA => by
        rcases hI.laid x hA with h | ⟨i, h3, h4, h5⟩
        · have := next_monoD hF (Nat.zero_le j) (Nat.le_of_lt hjn)
          omega
        · have hil := inS_lt h3
          rw [hI.size] at hil
          rcases Nat.lt_trichotomy i j with h | h | h
          · have := next_monoD hF (show i + 1 ≤ j from h) (Nat.le_of_lt hjn)
            omega
          · subst h; exact hnj h3
          · have := next_monoD hF (show j + 1 ≤ i from h) (Nat.le_of_lt hil)
            omega
      rcases hf.b h1 with ⟨hkeep, hg⟩ | ⟨hv, hg⟩
      · refine hg w0 (ovr (s m).objs id c) G w a _ Q hobj hI.mem hsl hfresh (fun G' u w' hM' hp hu hA => ih _ m c G' _ w' hcnt (inv_stepD hF hd hI ho hj (same (by omega)) hM' hp hu (fun x hx => (hA x hx).imp_right (fun h => .inr ⟨j, getD_set_same hjl, h⟩)) ?_))
        cases hv : isVal o.op with
        | false => exact curN hv
        | true =>
          refine curV hv c ?_
          rw [hkeep]
          exact (cur_at hF hd hI ho hj (fun x hx => ⟨conflict_val hx hv, conflict_val hv hx⟩)).1
      · obtain ⟨hcj, _, _⟩ := cur_at hF hd hI ho hj (fun x hx => ⟨conflict_val hx hv, conflict_val hv hx⟩)
        obtain ⟨c', hc'⟩ := has_box hF (show j + 1 ≤ ops.size from hjn)
        refine hg w0 (ovr (s m).objs id c) (ovr (s m).objs id c') G w a _ Q hobj (by rw [ovr_same, hcj]) (fun x hne => by rw [ovr_other _ _ _ hne, ovr_other _ _ _ hne]) (by rw [ovr_same, hc']) hI.mem hsl hfresh
          (fun G' u w' hM' hp hu hA => ih _ m c' G' _ w' hcnt (inv_stepD hF hd hI ho hj (same (by omega)) hM' hp hu (fun x hx => (hA x hx).imp_right (fun h => .inr ⟨j, getD_set_same hjl, h⟩)) (curV hv c' hc')))
    · have hv : isVal o.op = false := by
        cases hv : isVal o.op with
        | false => rfl
        | true => rw [clsO_val hv] at h2; cases h2
      have hjm : j = m := by
        rcases Nat.lt_trichotomy j m with h | h | h
        · exact absurd (hI.ph.old j o h ho h2) hnj
        · exact h
        · exfalso
          have hmn : m < ops.size := by omega
          obtain ⟨h3, h4⟩ := hI.ph.new ops[m] (by simp)
          exact h4 (ready_reach hI.closed hj ((hd.pair j m ops[m] o h (by simp) ho).2 (conflict_me (.inl ⟨h3, by omega⟩))))
      subst hjm
      have hlt : ∀ x, G.A x → x < (s j).next := by
        intro x hA
        rcases hI.laid x hA with h | ⟨i, h3, h4, h5⟩
        · exact Nat.lt_of_lt_of_le h (next_monoD hF (Nat.zero_le j) (Nat.le_of_lt hjn))
        · have hil := inS_lt h3
          rw [hI.size] at hil
          rcases Nat.lt_trichotomy i j with h | h | h
          · exact Nat.lt_of_lt_of_le h5 (next_monoD hF h (Nat.le_of_lt hjn))
          · subst h; exact absurd h3 hnj
          · exfalso
            have hx : ops[i]? = some ops[i] := by simp
            by_cases hci : clsO ops (ops[i]) = 0
            · have := ((hF.fact i _ hx).a hci).1
              omega
            · exact hnj (reach_in hI.closed ((hd.pair i j o ops[i] h ho hx).2 (conflict_me (.inl ⟨h2, hci⟩))) h3)
      have hcf : ∀ x, isVal x.op = true → conflict ops x o = true ∧ conflict ops o x = true := fun x hx => by
        have h1 := clsO_val (ops := ops) hx
        exact ⟨conflict_me (.inr ⟨h2, by omega⟩), conflict_me (.inl ⟨h2, by omega⟩)⟩
      obtain ⟨hcj, _, _⟩ := cur_at hF hd hI ho hj hcf
      obtain ⟨hM1, hp1⟩ := mem_later hI.mem hlt (fun x _ => (ovr_eq hcj x).symm)
      have hsl1 : Slots nt ops o (s j).env (s j).objs G w a := ⟨hsl.1, fun k hk u hu => ⟨(hsl.2 k hk u hu).1, u.rep_pres hp1 _ (hsl.2 k hk u hu).2⟩⟩
      obtain ⟨m', hm1, hm2, hm3, hm4⟩ := phase_next (ops.size - (j + 1)) ops.size (j + 1) rfl (by omega) (fun i => match ops[i]? with | some x => Nat.beq (clsO ops x) 2 | none => false)
      have hno : ∀ (k : Nat) x, j + 1 ≤ k → k < m' → ops[k]? = some x → clsO ops x ≠ 2 := by
        intro k x h1 h2 h3 h4
        have := hm3 k h1 h2
        simp [h3, h4] at this
      have hext := objs_extD hF (i := j + 1) (j := m') hm1 hm2 hno
      have hph : Phase ops (listed.setIfInBounds j true) m' := by
        refine ⟨hm2, fun i x hi hx hcx => ?_, fun x hx => ?_⟩
        · rcases Nat.lt_trichotomy i j with h | h | h
          · exact inS_set_mono (hI.ph.old i x h hx hcx)
          · subst h; exact getD_set_same hjl
          · exact absurd hcx (hno i x h hi hx)
        · have hlt' : m' < ops.size := (Array.getElem?_eq_some_iff.1 hx).1
          have hc2 := hm4 hlt'
          simp only [hx] at hc2
          have hc2 := Nat.eq_of_beq_eq_true hc2
          refine ⟨hc2, fun h => ?_⟩
          rcases inS_set h with h | rfl
          · exact hnj (reach_in hI.closed ((hd.pair m' j o x (by omega) ho hx).2 (conflict_me (.inl ⟨h2, by omega⟩))) h)
          · omega
      have hcj1 : get (s (j + 1)).objs id = some c := by rw [hf.keep hv]; exact hcj
      refine hf.e h2 w0 G w a _ Q hM1 hsl1 hlt (fun G' u w' hM' hp hu hA => ?_)
      obtain ⟨hM2, hp2⟩ := mem_later (O' := ovr (s m').objs id c) hM' hA (fun x hx => by
        by_cases e : x = id
        · subst e; rw [ovr_same, hcj1]
        · rw [ovr_other _ _ _ e]; exact hext x hx e)
      refine ih _ m' c G' _ w' hcnt (inv_stepD hF hd hI ho hj hph hM2 (hp1.trans (hp.trans hp2)) ((av j).rep_pres hp2 _ hu) (fun x hx => ?_) (curN hv))
      right
      by_cases h0 : x < (s 0).next
      · exact .inl h0
      · obtain ⟨i, h3, h4, h5⟩ := range_of (s := s) (j + 1) x (by omega) (hA x hx)
        refine .inr ⟨i, ?_, h4, h5⟩
        rcases Nat.lt_or_ge i j with h | h
        · have hx' : ops[i]? = some ops[i] := by simp
          refine inS_set_mono (ready_reach hI.closed hj ((hd.pair j i ops[i] o h hx' ho).2 (conflict_me (.inr ⟨h2, fun hci => ?_⟩))))
          have := ((hF.fact i _ hx').a hci).1
          omega
        · have : i = j := by omega
          subst this
          exact getD_set_same hjl

/-- THE DRAWN REGION, with calls that are given a pointer to a box. -/
theorem draw_soundD (hE : TOk P E) (hm : P.follows .mixedOrders = true) (nt : Nat) (w0 : Base) (rid : Nat) (ops : Array Oper) (id : Nat) (K : St → Prop) (σ : St) (G : Gh) (a : Act) (w : World) (hok : drawOK ops = true) (hbox : ∃ c, get σ.objs id = some c)
    (h : evOpsD P E nt ops id ops.toList K σ) (hR : Rel w0 σ G nt a w) : (Code.region rid ops true).wp P (Post w0 nt fun e σ' => e = .normal ∧ K σ') a w := by
  obtain ⟨s, av, h1, h2, h3⟩ := evOpsD_trace hE ops.toList 0 σ (fun i o hi => by simpa using hi) hR.wf h
  have hF : FactsD P nt ops id s av := ⟨fun i o ho => by have := h2 i o (by simpa using ho); simpa using this, by rw [h1]; exact hR.wf, by rw [h1]; exact hR.lt, by rw [h1]; exact hbox⟩
  have hd := drawOK_spec hok
  simp only [Array.length_toList, Nat.zero_add] at h3
  refine wp_region_any hm ?_
  have no : ∀ i, ¬ inS (Array.replicate ops.size false) i := fun i h => by
    unfold inS at h
    rw [Array.getD_eq_getD_getElem?, Array.getElem?_replicate] at h
    split at h <;> simp at h
  obtain ⟨m, _, hm2, hm3, hm4⟩ := phase_next (ops.size - 0) ops.size 0 rfl (by omega) (fun i => match ops[i]? with | some x => Nat.beq (clsO ops x) 2 | none => false)
  have hno : ∀ (k : Nat) x, 0 ≤ k → k < m → ops[k]? = some x → clsO ops x ≠ 2 := by
    intro k x h1 h2 h3 h4
    have := hm3 k h1 h2
    simp [h3, h4] at this
  have hM0 : Mem w0 σ.objs G { w with drawn := w.drawn + 1 } ∧ Pres σ.objs G w σ.objs G { w with drawn := w.drawn + 1 } :=
    hR.mem.step (fun id => Lv σ.objs G id) (fun _ => False) (fun id h => ⟨h, rfl⟩) ⟨rfl, rfl⟩ (fun id h => ⟨h, rfl, rfl, rfl⟩) (fun id h => .inl h) rfl rfl rfl (Nat.le_refl _) (fun b _ _ => rfl)
      (fun _ h => h.elim) (fun _ _ h => h.elim) (fun _ h => h.elim) (fun _ h => h.elim) (fun _ _ h => h.elim)
  have hlt : ∀ j, G.A j → j < (s 0).next := fun j hj => by rw [h1]; exact hR.fresh j hj
  obtain ⟨c, hc⟩ := hbox
  obtain ⟨hM1, hp1⟩ := mem_later (O' := ovr (s m).objs id c) hM0.1 hR.fresh (fun x hx => by
    by_cases e : x = id
    · subst e; rw [ovr_same, hc]
    · rw [ovr_other _ _ _ e, objs_extD hF (Nat.zero_le m) hm2 hno x (by rw [h1]; exact hx) e, h1])
  have hp := hM0.2.trans hp1
  refine draw_anyD (w0 := w0) hF hd (fun G' a' w' hR' => ⟨.normal, s ops.size, G', rfl, ⟨rfl, h3⟩, hR'⟩) ops.size _ m c G a _ ?_ ⟨by simp, fun i o e hi => absurd hi (no i), ⟨hm2, fun i o hi ho hc => absurd hc (hno i o (Nat.zero_le _) hi ho), fun o ho => ⟨?_, no m⟩⟩, hM1, fun j hj => .inl (hlt j hj), fun i o k hi => absurd hi (no i), fun k u hu _ => ?_, ⟨0, Nat.zero_le _, by rw [h1]; exact hc, fun i o hi => by omega, fun i o _ _ _ => no i⟩, hR.size, hR.defers⟩
  · exact Nat.le_trans List.countP_le_length (by simp)
  · have := hm4 (Array.getElem?_eq_some_iff.1 ho).1
    simp only [ho] at this
    exact Nat.eq_of_beq_eq_true this
  · rw [h1] at hu
    exact u.rep_pres hp _ (hR.env k u hu)

/-- THE CONTRACT OF A FUNCTION, FROM THE EVALUATION OF ITS BODY. -/
theorem fnAt_of (hE : TOk P E) (hm : P.follows .mixedOrders = true) {f : FuncId} {fn : Func} {c : Code} (hf : P.funcs[f]? = some fn) (hb : fn.body = some c) (hn : (fn.name == "runtime.NumGoroutine") = false) {args : List V} {rs : List RV} (hlen : Nat.ble args.length fn.ntmps = true)
    (h : ev P E fn.ntmps c (retK E fn.results.toList rs) ⟨initEnv 0 args, [], 0⟩) : FnAt P f args rs :=
  fnAt_of_ev hE (draw_sound hE hm) (draw_soundD hE hm) hf hb hn hlen h
end
end Go.Vm
