/-
  The evaluator of code over abstract states, and its soundness over the machine: from it a function's contract.
  Conditions: the table of types fits the program ('TOk').
-/
import Derived.Test.YtkjheelgilffiaaVmM
import Derived.LoopN
namespace Go.Vm
open Go.RowKit

inductive Ex where
  | normal
  | exit (id : Nat)
  | ret

/-- A function called by walking into it: whatever it does to the objects of the caller. -/
def InAt (P : Program) (f : FuncId) (avs : List AV) (σ : St) (K : AV → St → Prop) : Prop :=
  Enter P f ∧ ∀ (w0 : World) (G : Gh) (w : World) (vs : List Value) (R : Ending → World → Prop), Mem w0 σ.objs G w → σ.wf → repAVs σ.objs G w avs vs → (∀ j, G.A j → j < σ.next) →
    (∀ av objs' next' G' v w', K av ⟨σ.env, objs', next'⟩ → St.wf ⟨σ.env, objs', next'⟩ → Mem w0 objs' G' w' → Pres σ.objs G w objs' G' w' → av.rep objs' G' w' v → (∀ j, G'.A j → j < next') → R (.returned v) w') →
    Calls P f vs.toArray w R

def opI (P : Program) (vl : Operand → Option AV) (f : Operand) (args : Array Operand) (σ : St) (K : AV → St → Prop) : Prop :=
  need (vl f) fun
  | .c (.fn fid []) => need (vals vl args.toList) fun avs => InAt P fid avs σ K
  | _ => False

def evOp (P : Program) (E : Nat → Option TI) (inl : Bool) (op : Op) (σ : St) (K : AV → St → Prop) : Prop :=
  match op with
  | .store t x v => opE E (val σ.env) (.store t x v) σ K
  | .alloc t => opB P E (val σ.env) (.alloc t) σ K
  | .box t x => opB P E (val σ.env) (.box t x) σ K
  | .build t ps => opB P E (val σ.env) (.build t ps) σ K
  | .buildSlice t n ps => opB P E (val σ.env) (.buildSlice t n ps) σ K
  | .load t x => opB P E (val σ.env) (.load t x) σ K
  | .makeSlice t l c => opB P E (val σ.env) (.makeSlice t l c) σ K
  | .indexAddr t x i => opB P E (val σ.env) (.indexAddr t x i) σ K
  | .slice t x l h m => opB P E (val σ.env) (.slice t x l h m) σ K
  | .call c => match c.callee with
    | .builtin .append => opE E (val σ.env) (.call c) σ K
    | .builtin .len => opB P E (val σ.env) (.call c) σ K
    | .value f => opB P E (val σ.env) (.call c) σ K ∨ (inl = true ∧ opI P (val σ.env) f c.args σ K)
    | _ => opA E (val σ.env) (.call c) (fun v => K v σ)
  | op => opA E (val σ.env) op (fun v => K v σ)

/-! ### Strict steps: the state is laid open at every operation, so that terms stay small -/
def forceN (n : Nat) (K : Nat → Prop) : Prop :=
  match n with
  | 0 => K 0
  | m + 1 => K (m + 1)
def forceB (b : Bool) (K : Bool → Prop) : Prop :=
  match b with
  | true => K true
  | false => K false
def forceE (e : List (Nat × AV)) (K : List (Nat × AV) → Prop) : Prop :=
  match e with
  | [] => K []
  | p :: r => K (p :: r)
def forceC (x : C) (K : C → Prop) : Prop :=
  match x with
  | .nil => K .nil
  | .nil0 => K .nil0
  | .t y => K (.t y)
  | .ref id => forceN id fun k => K (.ref k)
  | .fn f ids => K (.fn f ids)
  | .view id sz lo hi => forceN id fun k => K (.view k sz lo hi)
def forceCs : List C → (List C → Prop) → Prop
  | [], K => K []
  | x :: xs, K => forceC x fun y => forceCs xs fun ys => K (y :: ys)
def forceV (v : AV) (K : AV → Prop) : Prop :=
  match v with
  | .c x => forceC x fun y => K (.c y)
  | .agg xs => forceCs xs fun ys => K (.agg ys)
  | .tup xs => K (.tup xs)
  | .ptr id off => forceN id fun k => forceN off fun o => K (.ptr k o)
  | .iptr id sz i off => forceN id fun k => forceN off fun o => K (.iptr k sz i o)
  | .sptr cells off => forceN off fun o => K (.sptr cells o)
  | .junk => K .junk
def forceO : List (Nat × Ob) → (List (Nat × Ob) → Prop) → Prop
  | [], K => K []
  | (id, .box cs) :: r, K => forceN id fun id' => forceCs cs fun ds => forceO r fun r' => K ((id', .box ds) :: r')
  | (id, .row own app sz rows) :: r, K => forceN id fun id' => forceB own fun own' => forceB app fun app' => forceN sz fun sz' => forceO r fun r' => K ((id', .row own' app' sz' rows) :: r')
  | (id, .tmp sz rows) :: r, K => forceN id fun id' => forceN sz fun sz' => forceO r fun r' => K ((id', .tmp sz' rows) :: r')
def putK (σ : St) (d : Option Nat) (v : AV) (K : St → Prop) : Prop :=
  match σ with
  | ⟨e, o, n⟩ => forceE e fun e' => forceN n fun n' => forceO o fun o' => forceV v fun v' => match d with
    | some k => K ⟨(k, v') :: e', o', n'⟩
    | none => K ⟨e', o', n'⟩

theorem forceN_eq (n : Nat) (K : Nat → Prop) : forceN n K = K n := by cases n <;> rfl
theorem forceB_eq (b : Bool) (K : Bool → Prop) : forceB b K = K b := by cases b <;> rfl
theorem forceE_eq (e : List (Nat × AV)) (K : List (Nat × AV) → Prop) : forceE e K = K e := by cases e <;> rfl
theorem forceC_eq (x : C) (K : C → Prop) : forceC x K = K x := by cases x <;> first | rfl | (rw [forceC, forceN_eq])
theorem forceCs_eq : ∀ (xs : List C) (K : List C → Prop), forceCs xs K = K xs
  | [], K => rfl
  | x :: xs, K => by rw [forceCs, forceC_eq, forceCs_eq]
theorem forceV_eq (v : AV) (K : AV → Prop) : forceV v K = K v := by
  cases v <;> first | rfl | (rw [forceV, forceC_eq]) | (rw [forceV, forceCs_eq]) | (rw [forceV, forceN_eq, forceN_eq]) | (rw [forceV, forceN_eq])
theorem forceO_eq : ∀ (o : List (Nat × Ob)) (K : List (Nat × Ob) → Prop), forceO o K = K o
  | [], K => rfl
  | (id, .box cs) :: r, K => by rw [forceO, forceN_eq, forceCs_eq, forceO_eq]
  | (id, .row own app sz rows) :: r, K => by rw [forceO, forceN_eq, forceB_eq, forceB_eq, forceN_eq, forceO_eq]
  | (id, .tmp sz rows) :: r, K => by rw [forceO, forceN_eq, forceN_eq, forceO_eq]
theorem putK_eq (σ : St) (d : Option Nat) (v : AV) (K : St → Prop) : putK σ d v K = K (σ.put d v) := by
  obtain ⟨e, o, n⟩ := σ
  cases d <;> simp only [putK, forceE_eq, forceN_eq, forceO_eq, forceV_eq, St.put]

def dstOk (nt : Nat) : Option Nat → Bool
  | some d => Nat.blt d nt
  | none => true

/-- The operations of a region, in the order of the text. -/
def evOps (P : Program) (E : Nat → Option TI) (nt : Nat) (inl : Bool) (ops : Array Oper) : List Oper → (St → Prop) → St → Prop
  | [], K, σ => K σ
  | o :: rest, K, σ => scase (dstOk nt o.dst) (match o.guard with
    | none => evOp P E inl o.op σ fun v σ' => putK σ' o.dst v (evOps P E nt inl ops rest K)
    | some (j, want) => need ((ops[j]?).bind (·.dst)) fun d => match get σ.env d with
      | some (.c (.t (.bool b))) =>
        match want with
        | true => bcase b (putK σ (some d) (vbool true) fun τ => evOp P E inl o.op τ fun v σ' => putK σ' o.dst v (evOps P E nt inl ops rest K)) (putK σ (some d) (vbool false) fun τ => putK τ o.dst .junk (evOps P E nt inl ops rest K))
        | false => bcase b (putK σ (some d) (vbool true) fun τ => putK τ o.dst .junk (evOps P E nt inl ops rest K)) (putK σ (some d) (vbool false) fun τ => evOp P E inl o.op τ fun v σ' => putK σ' o.dst v (evOps P E nt inl ops rest K))
      | some .junk => putK σ o.dst .junk (evOps P E nt inl ops rest K)
      | _ => False) False

/-! ### Forgetting and renaming, for loops: σ' is σ with some of its slots and objects, these under other numbers; a nil may become an empty row -/
def renC (ρ : List (Nat × Option Nat)) : C → Option C
  | .ref id => match get ρ id with
    | some (some k) => some (.ref k)
    | some none => some .nil
    | none => none
  | .nil => some .nil
  | .t x => some (.t x)
  | _ => none
def renCs (ρ : List (Nat × Option Nat)) : List C → Option (List C)
  | [] => some []
  | x :: xs => match renC ρ x, renCs ρ xs with
    | some y, some ys => some (y :: ys)
    | _, _ => none
def renAV (ρ : List (Nat × Option Nat)) : AV → Option AV
  | .c x => match renC ρ x with | some y => some (.c y) | none => none
  | .agg xs => match renCs ρ xs with | some ys => some (.agg ys) | none => none
  | .ptr id off => match get ρ id with
    | some (some k) => some (.ptr k off)
    | _ => none
  | .junk => some .junk
  | _ => none
/-- The slots of σ' are slots of σ. -/
def subEnv (ρ : List (Nat × Option Nat)) (old : List (Nat × AV)) : List (Nat × AV) → Prop
  | [] => True
  | (k, v) :: r => need (get old k) fun u => need (renAV ρ v) fun u' => u = u' ∧ subEnv ρ old r
/-- The objects of σ' are objects of σ. -/
def subOb (ρ : List (Nat × Option Nat)) (u o : Ob) : Prop :=
  match o, u with
  | .box cs, .box us => need (renCs ρ cs) fun ds => us = ds
  | .row own app sz rows, .row own' app' sz' rows' => (own' = own ∧ app' = app ∧ sz' = sz) ∧ rows' = rows
  | _, _ => False
def subObjs (ρ : List (Nat × Option Nat)) (old : List (Nat × Ob)) (next : Nat) : List (Nat × Ob) → Prop
  | [] => True
  | (id, o) :: r => scase (Nat.blt id next) (need (get ρ id) fun
      | some k => need (get old k) fun u => subOb ρ u o ∧ subObjs ρ old next r
      | none => match o with
          | .row true true _ [] => subObjs ρ old next r
          | _ => False) False
def somes : List (Nat × Option Nat) → List Nat
  | [] => []
  | (_, some k) :: r => k :: somes r
  | (_, none) :: r => somes r
/-- For every slot at most once by name; every id of the new state has its place. -/
def Sub (σ σ' : St) : Prop :=
  ∃ ρ : List (Nat × Option Nat), nodupB (somes ρ) = true ∧ nodupB (ρ.map (·.1)) = true ∧ (ρ.all fun p => Nat.blt p.1 σ'.next) = true ∧
    subEnv ρ σ.env σ'.env ∧ subObjs ρ σ.objs σ'.next σ'.objs

/-! ### A region whose order is drawn: its operations may be laid in any order that the binding edges leave -/
/-- What an operation has to do with memory: nothing; it reads, or makes new; it changes. -/
def cls : Op → Nat
  | .store .. => 2
  | .alloc .. | .box .. | .build .. | .buildSlice .. | .load .. | .makeSlice .. | .indexAddr .. | .slice .. => 1
  | .call c => match c.callee with
    | .builtin .append => 2
    | .builtin .len => 1
    | .value _ => 1
    | _ => 0
  | _ => 0
/-- The indices that come ahead of an operation, as bits. -/
def mask (T : List Nat) : List Edge → Nat
  | [] => 0
  | e :: r => bif Region.binds .any e then (match T[e.on]? with | some x => mask T r ||| (x ||| (1 <<< e.on)) | none => mask T r) else mask T r
def masks : List Oper → List Nat → List Nat
  | [], T => T
  | o :: r, T => masks r (T ++ [mask T o.after.toList])
def memN (d : Nat) : List Nat → Bool
  | [] => false
  | x :: r => bif Nat.beq x d then true else memN d r
def dstIn : Option Nat → List Nat → Bool
  | some d, l => memN d l
  | none, _ => false
def sameDst : Option Nat → Option Nat → Bool
  | some a, some b => Nat.beq a b
  | _, _ => false
def conflict (ops : Array Oper) (x y : Oper) : Bool :=
  dstIn x.dst (y.looksAt ops) || (dstIn y.dst (x.looksAt ops) || bif Nat.beq (cls x.op) 2 then !Nat.beq (cls y.op) 0 else (Nat.beq (cls y.op) 2 && !Nat.beq (cls x.op) 0))
/-- All pairs of which the first stands in the text ahead of the second. -/
def pairsOK (ops : Array Oper) (m : Nat) (y : Oper) : Nat → List Oper → Bool
  | _, [] => true
  | j, x :: r => (!sameDst x.dst y.dst && (!conflict ops x y || Nat.testBit m j)) && pairsOK ops m y (j + 1) r
def allOK (ops : Array Oper) (T : List Nat) : Nat → List Oper → List Oper → Bool
  | _, _, [] => true
  | i, pre, y :: r => ((match T[i]? with | some m => pairsOK ops m y 0 pre | none => false) && (!dstIn y.dst (y.looksAt ops) && (y.after.toList.all fun e => !Region.binds .any e || Nat.blt e.on i))) && allOK ops T (i + 1) (pre ++ [y]) r
def drawOK (ops : Array Oper) : Bool := allOK ops (masks ops.toList []) 0 [] ops.toList

def ev (P : Program) (E : Nat → Option TI) (nt : Nat) : Code → (Ex → St → Prop) → St → Prop
  | .skip, K, σ => K .normal σ
  | .region _ ops false, K, σ => evOps P E nt true ops ops.toList (K .normal) σ
  | .region _ ops true, K, σ => drawOK ops = true ∧ evOps P E nt false ops ops.toList (K .normal) σ
  | .seq a b, K, σ => ev P E nt a (fun e σ' => match e with | .normal => ev P E nt b K σ' | e => K e σ') σ
  | .cond c x y, K, σ => need (val σ.env c) fun
    | .c (.t (.bool b)) => bcase b (ev P E nt x K σ) (ev P E nt y K σ)
    | _ => False
  | .block id c, K, σ => ev P E nt c (fun e σ' => match e with
    | .exit k => bif Nat.beq k id then K .normal σ' else K (.exit k) σ'
    | e => K e σ') σ
  | .loop c, K, σ => ∃ (X : Type) (J : X → Prop) (I : X → St) (μ : X → Nat) (x0 : X), J x0 ∧ Sub σ (I x0) ∧
      ∀ x, J x → ev P E nt c (fun e σ' => match e with | .normal => ∃ x', (J x' ∧ μ x' < μ x) ∧ Sub σ' (I x') | e => K e σ') (I x)
  | .exit id, K, σ => K (.exit id) σ
  | .ret, K, σ => K .ret σ
  | _, _, _ => False

/-! ### Relation -/
structure Rel (w0 : World) (σ : St) (G : Gh) (nt : Nat) (a : Act) (w : World) : Prop where
  mem : Mem w0 σ.objs G w
  env : ∀ k v, get σ.env k = some v → v.rep σ.objs G w (a.tmps.getD k undef)
  lt : ∀ k v, get σ.env k = some v → k < nt
  size : a.tmps.size = nt
  fresh : ∀ j, G.A j → j < σ.next
  wf : σ.wf
  defers : a.defers = []

section
variable {P : Program} {E : Nat → Option TI} {nt : Nat} {inl : Bool} {w0 : World} {σ : St} {G : Gh} {a : Act} {w : World}

theorem Rel.ops (h : Rel w0 σ G nt a w) (op : Op) : OpsRep (val σ.env) op σ.objs G w a := by
  intro x _ v hv
  cases x with
  | tmp t => exact h.env t v hv
  | const c => exact constAV_rep hv
  | global g => cases hv
  | func f =>
    simp only [val, Option.some.injEq] at hv
    subst hv
    exact ⟨rfl, by simp⟩

theorem getD_put_same {a : Act} {d : Nat} {v : Value} (h : d < a.tmps.size) : (a.put (some d) v).tmps.getD d undef = v := by
  simp [Act.put, Array.getD, h]
theorem getD_put_other {a : Act} {d k : Nat} {v : Value} (h : k ≠ d) : (a.put (some d) v).tmps.getD k undef = a.tmps.getD k undef := by
  simp [Act.put, Array.getD_eq_getD_getElem?, Array.getElem?_setIfInBounds_ne (Ne.symm h)]

/-- Behind an operation: its value in its slot. -/
theorem Rel.put {σ' : St} {G' : Gh} {w' : World} (h : Rel w0 σ G nt a w) (he : σ'.env = σ.env) (hM : Mem w0 σ'.objs G' w') (hp : Pres σ.objs G w σ'.objs G' w') {av : AV} {v : Value} (hv : av.rep σ'.objs G' w' v)
    (hf : ∀ j, G'.A j → j < σ'.next) (hw : σ'.wf) {d : Option Nat} (hd : dstOk nt d = true) : Rel w0 (σ'.put d av) G' nt (a.put d v) w' := by
  cases d with
  | none =>
    refine ⟨hM, fun k u hk => ?_, fun k u hk => ?_, h.size, hf, hw, h.defers⟩
    · have : get σ.env k = some u := by rw [← he]; exact hk
      exact u.rep_pres hp _ (h.env k u this)
    · exact h.lt k u (by rw [← he]; exact hk)
  | some d =>
    have hd' : d < nt := by
      have : d + 1 ≤ nt := by simpa [dstOk, Nat.blt] using hd
      omega
    refine ⟨hM, fun k u hk => ?_, fun k u hk => ?_, by simp [Act.put, h.size], hf, fun id o ho => hw id o ho, h.defers⟩
    · have hk' : get ((d, av) :: σ'.env) k = some u := hk
      by_cases e : k = d
      · subst e
        rw [get_cons_same] at hk'
        injection hk' with hk'
        subst hk'
        rw [getD_put_same (by rw [h.size]; exact hd')]
        exact hv
      · rw [get_cons_other _ _ _ _ e, he] at hk'
        rw [getD_put_other e]
        exact u.rep_pres hp _ (h.env k u hk')
    · have hk' : get ((d, av) :: σ'.env) k = some u := hk
      by_cases e : k = d
      · subst e; exact hd'
      · rw [get_cons_other _ _ _ _ e, he] at hk'
        exact h.lt k u hk'

/-- A slot's value known more closely: a bool's. -/
theorem Rel.lit {d : Nat} {b c : Bool} (h : Rel w0 σ G nt a w) (hb : get σ.env d = some (.c (.t (.bool b)))) (e : b = c) : Rel w0 (σ.put (some d) (vbool c)) G nt a w := by
  subst e
  refine ⟨h.mem, fun k u hk => ?_, fun k u hk => ?_, h.size, h.fresh, fun id o ho => h.wf id o ho, h.defers⟩
  · have hk' : get ((d, vbool b) :: σ.env) k = some u := hk
    by_cases e : k = d
    · subst e
      rw [get_cons_same] at hk'
      injection hk' with hk'
      subst hk'
      exact h.env k _ hb
    · rw [get_cons_other _ _ _ _ e] at hk'; exact h.env k u hk'
  · have hk' : get ((d, vbool b) :: σ.env) k = some u := hk
    by_cases e : k = d
    · subst e; exact h.lt k _ hb
    · rw [get_cons_other _ _ _ _ e] at hk'; exact h.lt k u hk'

theorem evOp_sound (hE : TOk P E) {o : Oper} {K : AV → St → Prop} (h : evOp P E inl o.op σ K) (hR : Rel w0 σ G nt a w) (hd : dstOk nt o.dst = true) {Kc : Act → World → Prop} {Q : Exit → Act → World → Prop}
    (hK : ∀ av σ' G' a' w', K av σ' → Rel w0 (σ'.put o.dst av) G' nt a' w' → Kc a' w') : o.wp P a w Kc Q := by
  have caseA : opA E (val σ.env) o.op (fun v => K v σ) → o.wp P a w Kc Q := fun h => by
    obtain ⟨av, hk, hg⟩ := opA_sound hE h
    obtain ⟨v, h1, h2⟩ := hg σ.objs G w a (hR.ops o.op)
    exact wp_value h1 (hK av σ G _ w hk (hR.put rfl hR.mem Pres.refl h2 hR.fresh hR.wf hd))
  have caseB : opB P E (val σ.env) o.op σ K → o.wp P a w Kc Q := fun h => by
    obtain ⟨av, σ', hk, hext, hwf, hg⟩ := opB_sound hE hR.wf h
    have hnl : ∀ j, G.A j → get σ'.objs j = get σ.objs j := fun j hj => hext.objs j (hR.fresh j hj)
    have hp : Pres σ.objs G w σ'.objs G w := ⟨fun id h => ⟨h, rfl⟩, fun id hl b hb => .inl ⟨id, ⟨hl.1, by obtain ⟨ob, hob⟩ := hl.2; exact ⟨ob, by rw [← hnl id hl.1]; exact hob⟩⟩, hb⟩, fun _ _ _ => rfl, Nat.le_refl _⟩
    have hlv : ∀ id, Lv σ'.objs G id → Lv σ.objs G id := fun id hl => ⟨hl.1, by obtain ⟨ob, hob⟩ := hl.2; exact ⟨ob, by rw [← hnl id hl.1]; exact hob⟩⟩
    have hM : Mem w0 σ'.objs G w := by
      have hm := hR.mem
      exact ⟨hm.below, fun id ob ha ho => Ob.rep_pres hp rfl rfl (hm.hds id (hlv id ⟨ha, ob, ho⟩)) (fun _ _ => rfl) ob (hm.obs id ob ha (by rw [← hnl id ha]; exact ho)),
        fun id hl => hm.nodup id (hlv id hl), fun i j hi hj => hm.disj i j (hlv i hi) (hlv j hj), fun id hl => hm.lo id (hlv id hl), fun id hl => hm.hds id (hlv id hl)⟩
    refine hg w0 σ'.objs G w a Kc Q (fun _ _ h => h) hM (fun x hx v hv => v.rep_pres hp _ (hR.ops o.op x hx v hv)) (fun j h1 h2 ha => Nat.lt_irrefl _ (Nat.lt_of_lt_of_le (hR.fresh j ha) h1)) (fun G' v w' hM' hp' hv hA => ?_)
    refine hK av σ' G' _ w' hk (hR.put hext.env hM' (hp.trans hp') hv (fun j hj => ?_) hwf hd)
    rcases hA j hj with h | h
    · exact Nat.lt_of_lt_of_le (hR.fresh j h) hext.next
    · exact h.2
  have caseE : opE E (val σ.env) o.op σ K → o.wp P a w Kc Q := fun h => by
    obtain ⟨av, σ', hk, henv, hnext, hwf, hg⟩ := opE_sound hE hR.wf h
    exact hg w0 G w a Kc Q hR.mem (hR.ops o.op) hR.fresh (fun G' v w' hM' hp hv hA => hK av σ' G' _ w' hk (hR.put henv hM' hp hv hA hwf hd))
  obtain ⟨dst, op, type, pos, after, guard⟩ := o
  simp only at h hd hK caseA caseB caseE ⊢
  cases op with
  | store t x v => exact caseE h
  | alloc t => exact caseB h
  | box t x => exact caseB h
  | build t ps => exact caseB h
  | buildSlice t n ps => exact caseB h
  | load t x => exact caseB h
  | makeSlice t l c => exact caseB h
  | indexAddr t x i => exact caseB h
  | slice t x l hh m => exact caseB h
  | call c =>
    obtain ⟨cal, args, argTypes⟩ := c
    cases cal with
    | builtin b => cases b <;> first | exact caseE h | exact caseB h | exact caseA h
    | invoke r m => exact caseA h
    | value f =>
      rcases h with h | ⟨_, h⟩
      · exact caseB h
      · have h' := need_some h; clear h
        obtain ⟨vf, ef, h⟩ := h'
        split at h
        · rename_i fid
          have h' := need_some h; clear h
          obtain ⟨avs, eavs, h⟩ := h'
          obtain ⟨hent, hin⟩ := h
          have hops := hR.ops (.call { callee := .value f, args, argTypes })
          obtain ⟨h1, _⟩ := hops f (by simp [Op.operands, Call.operands]) _ ef
          have hargs := vals_rep (O := σ.objs) (G := G) (w := w) (a := a) eavs (fun x hx => hops x (by simp only [Op.operands, Call.operands]; simp [Array.mem_toList_iff.1 hx]))
          have hrun := run_call (P := P) (dst := dst) (type := type) (pos := pos) (after := after) (guard := guard) hent (fo := f) (args := args) (argTypes := argTypes) (a := a) (caps := []) (by simpa using h1) w
          unfold Oper.wp
          rw [hrun]
          show Calls P fid _ w _
          rw [List.append_nil]
          refine hin w0 G w _ _ hR.mem hR.wf hargs hR.fresh (fun av objs' next' G' v w' hk hwf hM' hp hv hf => ?_)
          exact hK av _ G' _ w' hk (hR.put (σ' := ⟨σ.env, objs', next'⟩) rfl hM' hp hv hf hwf hd)
        · exact h.elim
  | _ => exact caseA h

theorem evOps_sound (hE : TOk P E) {ops : Array Oper} {Q : Exit → Act → World → Prop} : ∀ (l : List Oper) {K : St → Prop} {σ : St} {G : Gh} {a : Act} {w : World}, evOps P E nt inl ops l K σ → Rel w0 σ G nt a w →
    (∀ σ' G' a' w', K σ' → Rel w0 σ' G' nt a' w' → Q .normal a' w') → wpList P ops Q l a w
  | [], K, σ, G, a, w, h, hR, hQ => hQ σ G a w h hR
  | o :: rest, K, σ, G, a, w, h, hR, hQ => by
    simp only [evOps, putK_eq] at h
    rcases scase_out h with ⟨hd, h⟩ | ⟨_, h⟩
    case inr => exact h.elim
    have go : ∀ {σ : St} {a : Act}, Region.wanted o (yielded ops a.tmps) = true → Rel w0 σ G nt a w → evOp P E inl o.op σ (fun v σ' => evOps P E nt inl ops rest K (σ'.put o.dst v)) → wpList P ops Q (o :: rest) a w := by
      intro σ a hwant hR h
      unfold wpList
      rw [if_pos hwant]
      exact .inl (evOp_sound hE h hR hd (fun av σ' G' a' w' hk hR' => evOps_sound hE rest hk hR' hQ))
    have skip : ∀ {σ : St} {a : Act}, Region.wanted o (yielded ops a.tmps) = false → Rel w0 σ G nt a w → evOps P E nt inl ops rest K (σ.put o.dst .junk) → wpList P ops Q (o :: rest) a w := by
      intro σ a hwant hR h
      unfold wpList
      rw [if_neg (by simp [hwant])]
      exact evOps_sound hE rest h (hR.put rfl hR.mem Pres.refl (by simp only [AV.rep]) hR.fresh hR.wf hd) hQ
    split at h
    · rename_i hg
      exact go (by simp [Region.wanted, hg]) hR h
    · rename_i j want hg
      have h' := need_some h; clear h
      obtain ⟨d, ed, h⟩ := h'
      have yld : ∀ v, d < nt → a.tmps.getD d undef = v → yielded ops a.tmps j = (match v with | .bool b => some b | _ => none) := by
        intro v hdn hv
        have hdl : d < a.tmps.size := by rw [hR.size]; exact hdn
        unfold yielded
        rw [ed]
        simp only [Option.bind_some]
        rw [Array.getElem?_eq_getElem hdl]
        have : a.tmps[d] = v := by rw [← hv]; simp [Array.getD, hdl]
        rw [this]
        cases v <;> rfl
      split at h
      · rename_i b hb
        have hv := bool_of (hR.env d _ hb)
        have hy := yld _ (hR.lt d _ hb) hv
        simp only at hy
        cases want with
        | true =>
          simp only at h
          rcases bcase_out h with ⟨hbt, h⟩ | ⟨hbf, h⟩
          · exact go (by simp [Region.wanted, hg, hy, hbt]) (hR.lit hb hbt) h
          · exact skip (by simp [Region.wanted, hg, hy, hbf]) (hR.lit hb hbf) h
        | false =>
          simp only at h
          rcases bcase_out h with ⟨hbt, h⟩ | ⟨hbf, h⟩
          · exact skip (by simp [Region.wanted, hg, hy, hbt]) (hR.lit hb hbt) h
          · exact go (by simp [Region.wanted, hg, hy, hbf]) (hR.lit hb hbf) h
      · rename_i hb
        have hv := hR.env d _ hb
        simp only [AV.rep] at hv
        have hy := yld _ (hR.lt d _ hb) hv
        exact skip (by simp [Region.wanted, hg, hy, undef]) hR h
      · exact h.elim
end
end Go.Vm
