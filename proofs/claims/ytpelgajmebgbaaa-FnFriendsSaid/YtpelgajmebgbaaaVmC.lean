/-
  The operations that look at no memory: their abstract value, and that the machine's run reads as it.
  Conditions: the table of types fits the program ('TOk').
-/
import Derived.Test.YtpelgajmebgbaaaVmB
namespace Go.Vm
open Go.RowKit

inductive TK where
  | sl (e : Nat)
  | st (offs : List (Nat × Nat))
  | int (k : IntKind)
  | bool
  | str
  | other

/-- What is known of a type: cells, bytes, is it a struct, its form, its zero value, may it be compared cell by cell (all cells integers). -/
structure TI where
  size : Nat
  bytes : Nat
  agg : Bool
  k : TK
  zero : List C
  cmp : Bool := false

def C.plain : C → Value
  | .nil => .slice none 0 0
  | .t (.int k n) => .int k n
  | .t (.bool b) => .bool b
  | .t (.str s) => .string s
  | _ => undef
def C.isPlain : C → Bool
  | .nil | .t (.int ..) | .t (.bool ..) | .t (.str ..) => true
  | _ => false

def TKok (P : Program) (d : TypeDesc) : TK → Prop
  | .sl e => d = .slice e
  | .st offs => ∃ fs : Array Field, d = .struct fs ∧ fs.toList.map (fun f => (f.offset, f.type)) = offs ∧ ∀ f ∈ fs.toList, ∃ i, P.info? f.type = some i ∧ i.size ≠ 0
  | .int k => d = .int k
  | .bool => d = .bool
  | .str => d = .string
  | .other => True

structure TIok (P : Program) (t : Nat) (ti : TI) : Prop where
  info : ∃ (i : TypeInfo) (z : Value), P.info? t = some i ∧ i.size = ti.size ∧ i.bytes = ti.bytes ∧ i.zero = some z ∧ z.cells = (ti.zero.map C.plain).toArray ∧ z.cells.size = ti.size
  desc : ∃ d, P.underlying t = some d ∧ (match d with | .struct _ | .array _ _ => true | _ => false) = ti.agg ∧ TKok P d ti.k
  plain : ti.zero.all C.isPlain = true
  eq : ti.cmp = true → P.eqGuardType P.depth t = false ∧ ∀ (xs ys : List Int) (w : World), xs.length = ti.size → ys.length = ti.size →
    (Op.equal t (.agg (xs.map (Value.int .i64)).toArray) (.agg (ys.map (Value.int .i64)).toArray)).run P w = .ok (xs == ys) w

def TOk (P : Program) (E : Nat → Option TI) : Prop := ∀ t ti, E t = some ti → TIok P t ti

def need {α : Type} (o : Option α) (k : α → Prop) : Prop := match o with | some a => k a | none => False
/-- A test that is not known at sight. -/
inductive bcase (b : Bool) (x y : Prop) : Prop where
  | t (h : b = true) (hx : x)
  | f (h : b = false) (hy : y)

theorem need_some {α : Type} {o : Option α} {k : α → Prop} (h : need o k) : ∃ a, o = some a ∧ k a := by
  cases o with
  | none => exact h.elim
  | some a => exact ⟨a, rfl, h⟩
theorem bcase_intro {b : Bool} {x y : Prop} (h1 : b = true → x) (h2 : b = false → y) : bcase b x y := by
  cases b
  · exact .f rfl (h2 rfl)
  · exact .t rfl (h1 rfl)
theorem bcase_out {b : Bool} {x y : Prop} (h : bcase b x y) : (b = true ∧ x) ∨ (b = false ∧ y) := by
  cases h with
  | t h hx => exact .inl ⟨h, hx⟩
  | f h hy => exact .inr ⟨h, hy⟩
theorem bcase_T {b : Bool} {x y : Prop} (h : b = true) (hx : x) : bcase b x y := .t h hx
theorem bcase_F {b : Bool} {x y : Prop} (h : b = false) (hy : y) : bcase b x y := .f h hy

/-- The same, where the test is known at sight. -/
def scase (b : Bool) (x y : Prop) : Prop := match b with | true => x | false => y
theorem scase_out {b : Bool} {x y : Prop} (h : scase b x y) : (b = true ∧ x) ∨ (b = false ∧ y) := by
  cases b
  · exact .inr ⟨rfl, h⟩
  · exact .inl ⟨rfl, h⟩

def constAV : Value → Option AV
  | .int k n => some (.c (.t (.int k n)))
  | .bool b => some (.c (.t (.bool b)))
  | .string s => some (.c (.t (.str s)))
  | .slice none 0 0 => some (.c .nil)
  | _ => none

/-- Data that was there before the call is marked 'anc'; an operation sees it without its mark. -/
def stripC : C → C
  | .anc x => .t x
  | x => x
def strip : AV → AV
  | .c x => .c (stripC x)
  | .agg xs => .agg (xs.map stripC)
  | .pin x => x
  | x => x
def valR (env : List (Nat × AV)) : Operand → Option AV
  | .tmp t => match get env t with | some (.pin v) => some v | some v => some v | none => none
  | .const v => constAV v
  | .func f => some (.c (.fn f []))
  | .global _ => none
def val (env : List (Nat × AV)) : Operand → Option AV
  | .tmp t => match get env t with | some v => some (strip v) | none => none
  | .const v => constAV v
  | .func f => some (.c (.fn f []))
  | .global _ => none

abbrev vint (k : IntKind) (n : Int) : AV := .c (.t (.int k n))
abbrev vbool (b : Bool) : AV := .c (.t (.bool b))

def intCell : C → Option Int
  | .t (.int .i64 n) => some n
  | _ => none
def ints : List C → Option (List Int)
  | [] => some []
  | x :: xs => match intCell x, ints xs with
    | some n, some ns => some (n :: ns)
    | _, _ => none

def binInt (op : BinOp) (k : IntKind) (a b : Int) (K : AV → Prop) : Prop :=
  match op with
  | .add => K (vint k (k.wrap (a + b)))
  | .sub => K (vint k (k.wrap (a - b)))
  | .mul => K (vint k (k.wrap (a * b)))
  | .quo => b ≠ 0 ∧ K (vint k (k.wrap (a.tdiv b)))
  | .rem => b ≠ 0 ∧ K (vint k (a.tmod b))
  | .and => K (vint k (bits .and k a b))
  | .or => K (vint k (bits .or k a b))
  | .xor => K (vint k (bits .xor k a b))
  | .andNot => K (vint k (bits .andNot k a b))
  | .eql => K (vbool (a == b))
  | .neq => K (vbool (a != b))
  | .lss => K (vbool (decide (a < b)))
  | .leq => K (vbool (decide (a ≤ b)))
  | .gtr => K (vbool (decide (b < a)))
  | .geq => K (vbool (decide (b ≤ a)))
  | _ => False

def binA (E : Nat → Option TI) (op : BinOp) (t : Nat) (x y : AV) (K : AV → Prop) : Prop :=
  match x, y with
  | .c (.t (.int k a)), .c (.t (.int k' b)) =>
    match op with
    | .shl => 0 ≤ b ∧ K (vint k (k.wrap (a * 2 ^ (min b.toNat k.bits))))
    | .shr => 0 ≤ b ∧ K (vint k (a.fdiv (2 ^ (min b.toNat k.bits))))
    | op => k = k' ∧ binInt op k a b K
  | .c (.t (.bool a)), .c (.t (.bool b)) =>
    need (E t) fun ti => match ti.k, op with
      | .bool, .eql => K (vbool (a == b))
      | .bool, .neq => K (vbool (!(a == b)))
      | _, _ => False
  | .c (.t (.str a)), .c (.t (.str b)) =>
    match op with
    | .eql => K (vbool (a.toList == b.toList))
    | .neq => K (vbool (!(a.toList == b.toList)))
    | _ => False
  | .agg xs, .agg ys =>
    need (E t) fun ti => match ti.cmp with
      | true => need (ints xs) fun as => need (ints ys) fun bs => (as.length = ti.size ∧ bs.length = ti.size) ∧
        match op with
        | .eql => K (vbool (as == bs))
        | .neq => K (vbool (!(as == bs)))
        | _ => False
      | false => False
  | .c (.t (.lst rows)), .c .nil =>
    need (E t) fun ti => match ti.k, op with
      | .sl _, .eql => K (.nilq rows)
      | _, _ => False
  | _, _ => False

def capIds : List AV → Option (List Nat)
  | [] => some []
  | .ptr id 0 :: r => match capIds r with | some l => some (id :: l) | none => none
  | _ => none
def vals (vl : Operand → Option AV) : List Operand → Option (List AV)
  | [] => some []
  | x :: xs => match vl x, vals vl xs with
    | some v, some vs => some (v :: vs)
    | _, _ => none

/-- The operations that look at no memory. -/
def opA (E : Nat → Option TI) (vl : Operand → Option AV) (op : Op) (K : AV → Prop) : Prop :=
  match op with
  | .move x => need (vl x) K
  | .assign x => need (vl x) K
  | .nilCheck x => need (vl x) fun
    | .ptr id off => K (.ptr id off)
    | .iptr id sz i off => K (.iptr id sz i off)
    | .sptr c o => K (.sptr c o)
    | .c (.fn f ids) => K (.c (.fn f ids))
    | .c (.t (.fn f ids)) => K (.c (.t (.fn f ids)))
    | .c (.t (.box cs)) => K (.c (.t (.box cs)))
    | _ => False
  | .pick c a b => need (vl c) fun
    | .c (.t (.bool cb)) => need (vl a) fun va => need (vl b) fun vb => bcase cb (K va) (K vb)
    | _ => False
  | .unOp u _ x => need (vl x) fun
    | .c (.t (.bool b)) => match u with | .not => K (vbool (!b)) | _ => False
    | .c (.t (.int k n)) => match u with | .neg => K (vint k (k.wrap (0 - n))) | _ => False
    | _ => False
  | .binOp op t x y _ => need (vl x) fun a => need (vl y) fun b => binA E op t a b K
  | .convert s d x => need (E s) fun _ => need (E d) fun ti => need (vl x) fun
    | .c (.t (.int _ n)) => match ti.k with | .int k => K (vint k (k.wrap n)) | _ => False
    | _ => False
  | .extract x i => need (vl x) fun
    | .tup vs => need (vs[i]?) K
    | _ => False
  | .fieldAddr t x f => need (E t) fun ti => match ti.k with
    | .st offs => need (offs[f]?) fun of => need (vl x) fun
      | .ptr id o => K (.ptr id (o + of.1))
      | .iptr id sz i o => K (.iptr id sz i (o + of.1))
      | .sptr cells o => K (.sptr cells (o + of.1))
      | .c (.t (.box cells)) => K (.sptr cells of.1)
      | _ => False
    | _ => False
  | .makeFunc (.func f) first captured => first = #[] ∧ need (vals vl captured.toList) fun vs => need (capIds vs) fun ids => K (.c (.fn f ids))
  | .call { callee := .builtin .min, args, argTypes := _ } => need (vals vl args.toList) fun
    | [.c (.t (.int k a)), .c (.t (.int _ b))] => K (vint k (if b < a then b else a))
    | _ => False
  | .call { callee := .builtin .max, args, argTypes := _ } => need (vals vl args.toList) fun
    | [.c (.t (.int k a)), .c (.t (.int _ b))] => K (vint k (if a < b then b else a))
    | _ => False
  | _ => False

section
variable {P : Program} {E : Nat → Option TI} {O : List (Nat × Ob)} {G : Gh} {w : World}

theorem constAV_rep {v : Value} {av : AV} (h : constAV v = some av) : av.rep O G w v := by
  unfold constAV at h
  split at h <;> (try (injection h with h; subst h))
  · exact ⟨[], ⟨rfl, rfl⟩, fun _ _ b hb => by simp at hb⟩
  · exact ⟨[], ⟨rfl, rfl⟩, fun _ _ b hb => by simp at hb⟩
  · exact ⟨[], ⟨rfl, rfl⟩, fun _ _ b hb => by simp at hb⟩
  · rfl
  · cases h

theorem vint_rep (k : IntKind) (n : Int) : (vint k n).rep O G w (.int k n) := ⟨[], ⟨rfl, rfl⟩, fun _ _ b hb => by simp at hb⟩
theorem vbool_rep (b : Bool) : (vbool b).rep O G w (.bool b) := ⟨[], ⟨rfl, rfl⟩, fun _ _ b hb => by simp at hb⟩
theorem int_of {k : IntKind} {n : Int} {v : Value} (h : (AV.c (.t (.int k n))).rep O G w v) : v = .int k n := by
  obtain ⟨F, h, _⟩ := h
  exact h.1
theorem bool_of {b : Bool} {v : Value} (h : (AV.c (.t (.bool b))).rep O G w v) : v = .bool b := by
  obtain ⟨F, h, _⟩ := h
  exact h.1
theorem str_of {s : ByteArray} {v : Value} (h : (AV.c (.t (.str s))).rep O G w v) : v = .string s := by
  obtain ⟨F, h, _⟩ := h
  exact h.1
theorem intCell_of {x : C} {n : Int} {v : Value} (h : intCell x = some n) (hr : x.rep O G w v) : v = .int .i64 n := by
  unfold intCell at h
  split at h
  · injection h with h; subst h; exact int_of hr
  · cases h
theorem ints_of : ∀ {xs : List C} {ns : List Int} {vs : List Value}, ints xs = some ns → repCs O G w xs vs → vs = ns.map (Value.int .i64)
  | [], ns, vs, h, hr => by simp [ints] at h; subst h; simpa [repCs] using hr
  | x :: xs, ns, vs, h, ⟨v, vs', h1, h2, h3⟩ => by
    simp only [ints] at h
    split at h
    · rename_i n ns' e1 e2
      injection h with h
      subst h h1
      rw [intCell_of e1 h2, ints_of e2 h3]
      rfl
    · cases h

/-- The reading of an operation's operands. -/
def OpsRep (vl : Operand → Option AV) (op : Op) (O : List (Nat × Ob)) (G : Gh) (w : World) (a : Act) : Prop :=
  ∀ x ∈ op.operands, ∀ v, vl x = some v → v.rep O G w (a.eval x)

theorem vals_rep {a : Act} : ∀ {xs : List Operand} {avs : List AV} {vl : Operand → Option AV}, vals vl xs = some avs → (∀ x ∈ xs, ∀ v, vl x = some v → v.rep O G w (a.eval x)) →
    repAVs O G w avs (xs.map a.eval)
  | [], avs, vl, h, _ => by simp [vals] at h; subst h; simp [repAVs]
  | x :: xs, avs, vl, h, hr => by
    simp only [vals] at h
    split at h
    · rename_i v vs e1 e2
      injection h with h
      subst h
      simp only [repAVs, List.map_cons]
      exact ⟨_, _, rfl, hr x (by simp) v e1, vals_rep e2 (fun y hy => hr y (by simp [hy]))⟩
    · cases h

theorem capIds_rep : ∀ {avs : List AV} {ids : List Nat} {vs : List Value}, capIds avs = some ids → repAVs O G w avs vs → vs = ids.map G.φ ∧ ∀ id ∈ ids, G.A id
  | [], ids, vs, h, hr => by simp [capIds] at h; subst h; simpa [repAVs] using hr
  | .ptr id 0 :: r, ids, vs, h, hr => by
    simp only [capIds] at h
    split at h
    · rename_i l e
      injection h with h
      subst h
      simp only [repAVs] at hr
      obtain ⟨v, vs', h1, h2, h3⟩ := hr
      obtain ⟨h4, h5⟩ := capIds_rep e h3
      simp only [AV.rep] at h2
      obtain ⟨h6, ad, h7, h8⟩ := h2
      subst h1
      refine ⟨by rw [h4, h8, List.map_cons, h7]; rfl, fun i hi => ?_⟩
      rcases List.mem_cons.1 hi with rfl | hi
      · exact h6
      · exact h5 i hi
    · cases h
  | .ptr id (n + 1) :: r, ids, vs, h, hr => by simp [capIds] at h
  | .c _ :: r, ids, vs, h, hr => by simp [capIds] at h
  | .agg _ :: r, ids, vs, h, hr => by simp [capIds] at h
  | .tup _ :: r, ids, vs, h, hr => by simp [capIds] at h
  | .iptr .. :: r, ids, vs, h, hr => by simp [capIds] at h
  | .sptr .. :: r, ids, vs, h, hr => by simp [capIds] at h
  | .junk :: r, ids, vs, h, hr => by simp [capIds] at h
  | .nilq _ :: r, ids, vs, h, hr => by simp [capIds] at h

/-- What a run of an operation that looks at no memory gives. -/
def Gives (P : Program) (vl : Operand → Option AV) (o : Oper) (av : AV) : Prop :=
  ∀ O G w a, OpsRep vl o.op O G w a → ∃ v, (execOp a.eval o).run P w = .ok (.value v) w ∧ av.rep O G w v

theorem binInt_sound {op : BinOp} {k : IntKind} {a b : Int} {K : AV → Prop} (h : binInt op k a b K) :
    ∃ av, K av ∧ ∀ O G w t, ∃ v, (binOp op t (.int k a) (.int k b)).run P w = .ok v w ∧ av.rep O G w v := by
  unfold binInt at h
  split at h
  · exact ⟨_, h, fun O G w t => ⟨_, by simp only [binOp_add, Op.intArith, Sem.run_pure], vint_rep _ _⟩⟩
  · exact ⟨_, h, fun O G w t => ⟨_, by simp only [binOp_sub, Op.intArith, Sem.run_pure], vint_rep _ _⟩⟩
  · exact ⟨_, h, fun O G w t => ⟨_, by simp only [binOp_mul, Op.intArith, Sem.run_pure], vint_rep _ _⟩⟩
  · exact ⟨_, h.2, fun O G w t => ⟨_, by simp only [binOp_quo, Op.intDiv, if_neg h.1, Sem.run_pure], vint_rep _ _⟩⟩
  · exact ⟨_, h.2, fun O G w t => ⟨_, by simp only [binOp_rem, Op.intDiv, if_neg h.1, Sem.run_pure], vint_rep _ _⟩⟩
  · exact ⟨_, h, fun O G w t => ⟨_, by simp only [binOp_and, Op.intBits, Sem.run_pure]; rfl, vint_rep _ _⟩⟩
  · exact ⟨_, h, fun O G w t => ⟨_, by simp only [binOp_or, Op.intBits, Sem.run_pure]; rfl, vint_rep _ _⟩⟩
  · exact ⟨_, h, fun O G w t => ⟨_, by simp only [binOp_xor, Op.intBits, Sem.run_pure]; rfl, vint_rep _ _⟩⟩
  · exact ⟨_, h, fun O G w t => ⟨_, by simp only [binOp_andNot, Op.intBits, Sem.run_pure]; rfl, vint_rep _ _⟩⟩
  · exact ⟨_, h, fun O G w t => ⟨_, by simp only [binOp_eql, Sem.run_pure], vbool_rep _⟩⟩
  · exact ⟨_, h, fun O G w t => ⟨_, by simp only [binOp_neq, Sem.run_pure], vbool_rep _⟩⟩
  · exact ⟨_, h, fun O G w t => ⟨_, by simp only [binOp_lss, Sem.run_pure], vbool_rep _⟩⟩
  · exact ⟨_, h, fun O G w t => ⟨_, by simp only [binOp_leq, Sem.run_pure], vbool_rep _⟩⟩
  · exact ⟨_, h, fun O G w t => ⟨_, by simp only [binOp_gtr, Sem.run_pure], vbool_rep _⟩⟩
  · exact ⟨_, h, fun O G w t => ⟨_, by simp only [binOp_geq, Sem.run_pure], vbool_rep _⟩⟩
  · exact h.elim

theorem run_equal_bool {t : Nat} (ht : P.underlying t = some .bool) (a b : Bool) (w : World) : (Op.equal t (.bool a) (.bool b)).run P w = .ok (a == b) w := by
  have h : ∀ d, (Op.equalIn (d + 1) t (.bool a) (.bool b)).run P w = .ok (a == b) w := fun d => by simp [Op.equalIn, run_underlying ht]
  exact h 9999

theorem binA_sound (hE : TOk P E) {op : BinOp} {t : Nat} {x y : AV} {K : AV → Prop} (h : binA E op t x y K) :
    ∃ av, K av ∧ ∀ O G w (ox oy : Operand) (u v : Value), x.rep O G w u → y.rep O G w v →
      ∃ r, (do eqGuard op t ox oy u v; binOp op t u v).run P w = .ok r w ∧ av.rep O G w r := by
  unfold binA at h
  split at h
  · rename_i k a k' b
    have hg : ∀ op w ox oy, (eqGuard op t ox oy (.int k a) (.int k' b)).run P w = .ok () w := fun op w ox oy => by
      unfold eqGuard
      split <;> simp
    have fin : ∀ {K : AV → Prop}, (∃ av, K av ∧ ∀ O G w, ∃ v, (binOp op t (.int k a) (.int k' b)).run P w = .ok v w ∧ av.rep O G w v) →
        ∃ av, K av ∧ ∀ O G w (ox oy : Operand) (u v : Value), (AV.c (.t (.int k a))).rep O G w u → (AV.c (.t (.int k' b))).rep O G w v →
          ∃ r, (do eqGuard op t ox oy u v; binOp op t u v).run P w = .ok r w ∧ av.rep O G w r := by
      rintro K ⟨av, hK, hr⟩
      refine ⟨av, hK, fun O G w ox oy u v hu hv => ?_⟩
      rw [int_of hu, int_of hv]
      obtain ⟨r, h1, h2⟩ := hr O G w
      exact ⟨r, by rw [Sem.run_bind, hg]; exact h1, h2⟩
    split at h
    · refine fin ⟨_, h.2, fun O G w => ⟨_, ?_, vint_rep _ _⟩⟩
      simp only [binOp_shl, Op.shift, if_neg (Int.not_lt.2 h.1), Sem.run_pure]
    · refine fin ⟨_, h.2, fun O G w => ⟨_, ?_, vint_rep _ _⟩⟩
      simp only [binOp_shr, Op.shift, if_neg (Int.not_lt.2 h.1), Sem.run_pure]
    · obtain ⟨rfl, h⟩ := h
      obtain ⟨av, hK, hr⟩ := binInt_sound (P := P) h
      exact fin ⟨av, hK, fun O G w => hr O G w t⟩
  · rename_i a b
    obtain ⟨ti, e, h⟩ := need_some h
    obtain ⟨d, hd, _, hk⟩ := (hE t ti e).desc
    generalize hk' : ti.k = k0 at h
    rw [hk'] at hk
    clear hk'
    split at h
    · simp only [TKok] at hk
      subst hk
      refine ⟨_, h, fun O G w ox oy u v hu hv => ?_⟩
      rw [bool_of hu, bool_of hv]
      refine ⟨_, ?_, vbool_rep _⟩
      simp [eqGuard, binOp, run_equal_bool hd]
    · simp only [TKok] at hk
      subst hk
      refine ⟨_, h, fun O G w ox oy u v hu hv => ?_⟩
      rw [bool_of hu, bool_of hv]
      refine ⟨_, ?_, vbool_rep _⟩
      simp [eqGuard, binOp, run_equal_bool hd]
    · exact h.elim
  · rename_i a b
    split at h
    · refine ⟨_, h, fun O G w ox oy u v hu hv => ?_⟩
      rw [str_of hu, str_of hv]
      refine ⟨_, ?_, vbool_rep _⟩
      simp [eqGuard, binOp_string_eql]
    · refine ⟨_, h, fun O G w ox oy u v hu hv => ?_⟩
      rw [str_of hu, str_of hv]
      refine ⟨_, ?_, vbool_rep _⟩
      simp [eqGuard, binOp_string_neq]
    · exact h.elim
  · rename_i xs ys
    obtain ⟨ti, e, h⟩ := need_some h
    split at h
    · rename_i hc
      obtain ⟨as, ea, h⟩ := need_some h
      obtain ⟨bs, eb, h⟩ := need_some h
      obtain ⟨⟨la, lb⟩, h⟩ := h
      obtain ⟨hg, he⟩ := (hE t ti e).eq hc
      have hgd : ∀ op w ox oy xs ys, (eqGuard op t ox oy (.agg xs) (.agg ys)).run P w = .ok () w := fun op w ox oy xs ys => by
        unfold eqGuard
        split <;> simp [hg]
      split at h
      · refine ⟨_, h, fun O G w ox oy u v hu hv => ?_⟩
        simp only [AV.rep] at hu hv
        obtain ⟨us, rfl, hu⟩ := hu
        obtain ⟨vs, rfl, hv⟩ := hv
        rw [ints_of ea hu, ints_of eb hv]
        refine ⟨_, ?_, vbool_rep _⟩
        rw [Sem.run_bind, hgd]
        simp [binOp, he as bs w la lb]
      · refine ⟨_, h, fun O G w ox oy u v hu hv => ?_⟩
        simp only [AV.rep] at hu hv
        obtain ⟨us, rfl, hu⟩ := hu
        obtain ⟨vs, rfl, hv⟩ := hv
        rw [ints_of ea hu, ints_of eb hv]
        refine ⟨_, ?_, vbool_rep _⟩
        rw [Sem.run_bind, hgd]
        simp [binOp, he as bs w la lb]
      · exact h.elim
    · exact h.elim
  · rename_i rows
    obtain ⟨ti, e, h⟩ := need_some h
    obtain ⟨d, hd, _, hk⟩ := (hE t ti e).desc
    generalize hk' : ti.k = k0 at h
    rw [hk'] at hk
    clear hk'
    split at h
    · simp only [TKok] at hk
      subst hk
      refine ⟨_, h, fun O G w ox oy u v hu hv => ?_⟩
      have hv' : v = .slice none 0 0 := hv
      subst hv'
      obtain ⟨F, hu, _⟩ := hu
      simp only [T.rep] at hu
      obtain ⟨A, c, rfl, _, h3⟩ := hu
      have hq : ∀ d, (Op.equalIn (d + 1) t (.slice A rows.length c) (.slice none 0 0)).run P w = .ok A.isNone w := fun d => by
        cases A <;> simp [Op.equalIn, run_underlying hd]
      refine ⟨.bool A.isNone, ?_, ?_⟩
      · have := hq 9999
        simp [eqGuard, binOp, Op.equal, Op.maxDepth, this]
      · simp only [AV.rep]
        refine ⟨_, rfl, fun hn => ?_⟩
        rcases h3 with ⟨h3, _⟩ | ⟨ad, _, _, _, _, h3, _⟩
        · exact h3
        · subst h3; cases hn
    · exact h.elim
  · exact h.elim

theorem repAVs_get : ∀ {avs : List AV} {vs : List Value} {i : Nat} {av : AV}, repAVs O G w avs vs → avs[i]? = some av → ∃ v, vs[i]? = some v ∧ av.rep O G w v
  | [], vs, i, av, _, hi => by simp at hi
  | x :: xs, vs, i, av, h, hi => by
    simp only [repAVs] at h
    obtain ⟨v, vs', rfl, h2, h3⟩ := h
    cases i with
    | zero => simp at hi; subst hi; exact ⟨v, by simp, h2⟩
    | succ i => obtain ⟨u, h4, h5⟩ := repAVs_get (i := i) h3 (by simpa using hi); exact ⟨u, by simpa using h4, h5⟩

theorem run_fieldAt {t : Nat} {f : Nat} {fs : Array Field} {of : Nat × Nat} (ht : P.underlying t = some (.struct fs)) (hf : (fs.toList.map fun f => (f.offset, f.type))[f]? = some of)
    (hs : ∀ f ∈ fs.toList, ∃ i, P.info? f.type = some i ∧ i.size ≠ 0) (a : Addr) (w : World) :
    (Instr.fieldAt t (.pointer (some a)) f).run P w = .ok (.pointer (some (a.add of.1))) w := by
  rw [List.getElem?_map] at hf
  cases hx : fs.toList[f]? with
  | none => rw [hx] at hf; cases hf
  | some fd =>
    rw [hx] at hf
    injection hf with hf
    subst hf
    have hx' : fs[f]? = some fd := by rw [← Array.getElem?_toList]; exact hx
    obtain ⟨i, hi, hne⟩ := hs fd (List.mem_of_getElem? hx)
    simp [Instr.fieldAt, run_underlying ht, hx', Instr.sureAddr, fieldPlace, sizeOf, typeInfo, hi, hne]

theorem opA_sound (hE : TOk P E) {o : Oper} {vl : Operand → Option AV} {K : AV → Prop} (h : opA E vl o.op K) :
    ∃ av, K av ∧ Gives P vl o av := by
  obtain ⟨dst, op, type, pos, after, guard⟩ := o
  simp only at h ⊢
  unfold opA at h
  split at h
  · rename_i x
    obtain ⟨v, e, h⟩ := need_some h
    exact ⟨v, h, fun O G w a hr => ⟨_, by simp [execOp], hr x (by simp [Op.operands]) v e⟩⟩
  · rename_i x
    obtain ⟨v, e, h⟩ := need_some h
    exact ⟨v, h, fun O G w a hr => ⟨_, by simp [execOp], hr x (by simp [Op.operands]) v e⟩⟩
  · rename_i x
    obtain ⟨v, e, h⟩ := need_some h
    have hx : x ∈ (Op.nilCheck x).operands := by simp [Op.operands]
    split at h
    · refine ⟨_, h, fun O G w a hr => ?_⟩
      have hv := hr x hx _ e
      have hv' := hv
      simp only [AV.rep] at hv
      obtain ⟨_, ad, _, hv⟩ := hv
      exact ⟨_, by simp [execOp, hv]; rfl, by rw [← hv]; exact hv'⟩
    · refine ⟨_, h, fun O G w a hr => ?_⟩
      have hv := hr x hx _ e
      have hv' := hv
      simp only [AV.rep] at hv
      obtain ⟨_, ad, _, _, _, hv⟩ := hv
      exact ⟨_, by simp [execOp, hv]; rfl, by rw [← hv]; exact hv'⟩
    · refine ⟨_, h, fun O G w a hr => ?_⟩
      have hv := hr x hx _ e
      have hv' := hv
      simp only [AV.rep] at hv
      obtain ⟨ad, _, _, hv, _⟩ := hv
      exact ⟨_, by simp [execOp, hv]; rfl, by rw [← hv]; exact hv'⟩
    · refine ⟨_, h, fun O G w a hr => ?_⟩
      have hv := hr x hx _ e
      have hv' := hv
      obtain ⟨hv, _⟩ := hv
      exact ⟨_, by simp [execOp, hv]; rfl, by rw [← hv]; exact hv'⟩
    · refine ⟨_, h, fun O G w a hr => ?_⟩
      have hv := hr x hx _ e
      have hv' := hv
      obtain ⟨F, hv, _⟩ := hv
      simp only [T.rep] at hv
      obtain ⟨vs, hv, _⟩ := hv
      exact ⟨_, by simp [execOp, hv]; rfl, by rw [← hv]; exact hv'⟩
    · refine ⟨_, h, fun O G w a hr => ?_⟩
      have hv := hr x hx _ e
      have hv' := hv
      obtain ⟨F, hv, _⟩ := hv
      simp only [T.rep] at hv
      obtain ⟨ad, cs, F', hv, _⟩ := hv
      exact ⟨_, by simp [execOp, hv]; rfl, by rw [← hv]; exact hv'⟩
    · exact h.elim
  · rename_i c x y
    obtain ⟨vc, ec, h⟩ := need_some h
    split at h
    · rename_i cb
      obtain ⟨vx, ex, h⟩ := need_some h
      obtain ⟨vy, ey, h⟩ := need_some h
      rcases bcase_out h with ⟨hb, hz⟩ | ⟨hb, hz⟩ <;> subst hb
      · refine ⟨_, hz, fun O G w a hr => ⟨_, ?_, hr x (by simp [Op.operands]) vx ex⟩⟩
        simp [execOp, bool_of (hr c (by simp [Op.operands]) _ ec), asBool]
      · refine ⟨_, hz, fun O G w a hr => ⟨_, ?_, hr y (by simp [Op.operands]) vy ey⟩⟩
        simp [execOp, bool_of (hr c (by simp [Op.operands]) _ ec), asBool]
    · exact h.elim
  · rename_i u t x
    obtain ⟨v, e, h⟩ := need_some h
    split at h
    · rename_i b
      split at h
      · refine ⟨_, h, fun O G w a hr => ⟨_, ?_, vbool_rep _⟩⟩
        simp [execOp, bool_of (hr x (by simp [Op.operands]) _ e), Op.unary]
      · exact h.elim
    · rename_i k n
      split at h
      · refine ⟨_, h, fun O G w a hr => ⟨_, ?_, vint_rep _ _⟩⟩
        simp [execOp, int_of (hr x (by simp [Op.operands]) _ e), Op.unary, Op.intArith]
      · exact h.elim
    · exact h.elim
  · rename_i bop t x y yt
    obtain ⟨vx, ex, h⟩ := need_some h
    obtain ⟨vy, ey, h⟩ := need_some h
    obtain ⟨av, hK, hr⟩ := binA_sound hE h
    refine ⟨av, hK, fun O G w a ho => ?_⟩
    obtain ⟨r, h1, h2⟩ := hr O G w x y (a.eval x) (a.eval y) (ho x (by simp [Op.operands]) vx ex) (ho y (by simp [Op.operands]) vy ey)
    exact ⟨r, by simp only [execOp]; rw [Sem.run_bind, h1]; rfl, h2⟩
  · rename_i s d x
    obtain ⟨si, es, h⟩ := need_some h
    obtain ⟨ti, e, h⟩ := need_some h
    obtain ⟨v, ev, h⟩ := need_some h
    split at h
    · rename_i k' n
      split at h
      · rename_i k hk
        refine ⟨_, h, fun O G w a hr => ⟨_, ?_, vint_rep _ _⟩⟩
        obtain ⟨dd, hd, _, hkk⟩ := (hE d ti e).desc
        rw [hk] at hkk
        simp only [TKok] at hkk
        subst hkk
        obtain ⟨sd, hsd, _⟩ := (hE s si es).desc
        have hc : (convert s d (.int k' n)).run P w = .ok (.int k (k.wrap n)) w := by simp [convert, run_underlying hsd, run_underlying hd, Conv.intToInt]
        simp [execOp, int_of (hr x (by simp [Op.operands]) _ ev), hc]
      · exact h.elim
    · exact h.elim
  · rename_i x i
    obtain ⟨v, e, h⟩ := need_some h
    split at h
    · rename_i vs
      obtain ⟨av, ei, h⟩ := need_some h
      refine ⟨av, h, fun O G w a hr => ?_⟩
      have hx := hr x (by simp [Op.operands]) _ e
      simp only [AV.rep] at hx
      obtain ⟨us, hx, hus⟩ := hx
      obtain ⟨u, hu, hru⟩ := repAVs_get hus ei
      exact ⟨u, by simp [execOp, hx, Instr.extract, hu], hru⟩
    · exact h.elim
  · rename_i t x f
    obtain ⟨ti, e, h⟩ := need_some h
    split at h
    · rename_i offs hk
      obtain ⟨d, hd, _, hkk⟩ := (hE t ti e).desc
      rw [hk] at hkk
      obtain ⟨fs, rfl, hof, hss⟩ := hkk
      obtain ⟨of, ef, h⟩ := need_some h
      obtain ⟨v, ev, h⟩ := need_some h
      rw [← hof] at ef
      have run := fun (ad : Addr) w => run_fieldAt (P := P) hd ef hss ad w
      have hx : x ∈ (Op.fieldAddr t x f).operands := by simp [Op.operands]
      split at h
      · refine ⟨_, h, fun O G w a hr => ?_⟩
        have hv := hr x hx _ ev
        simp only [AV.rep] at hv
        obtain ⟨h1, ad, h2, h3⟩ := hv
        exact ⟨_, by simp [execOp, h3, run]; rfl, by simp only [AV.rep]; exact ⟨h1, ad, h2, by rw [add_of_add]⟩⟩
      · refine ⟨_, h, fun O G w a hr => ?_⟩
        have hv := hr x hx _ ev
        simp only [AV.rep] at hv
        obtain ⟨h1, ad, n, c, h2, h3⟩ := hv
        exact ⟨_, by simp [execOp, h3, run]; rfl, by simp only [AV.rep]; exact ⟨h1, ad, n, c, h2, by rw [add_of_add, Nat.add_assoc]⟩⟩
      · refine ⟨_, h, fun O G w a hr => ?_⟩
        have hv := hr x hx _ ev
        simp only [AV.rep] at hv
        obtain ⟨ad, cs, F, h1, h2⟩ := hv
        exact ⟨_, by simp [execOp, h1, run]; rfl, by simp only [AV.rep]; exact ⟨ad, cs, F, by rw [add_of_add], h2⟩⟩
      · refine ⟨_, h, fun O G w a hr => ?_⟩
        have hv := hr x hx _ ev
        obtain ⟨F, hv, him⟩ := hv
        simp only [T.rep] at hv
        obtain ⟨ad, cs, F', h1, h2, h3, h4, h5⟩ := hv
        subst h3
        exact ⟨_, by simp [execOp, h1, run]; rfl, by simp only [AV.rep]; exact ⟨ad, cs, F', rfl, h4, him, h2, h5⟩⟩
      · exact h.elim
    · exact h.elim
  · rename_i f first captured
    obtain ⟨rfl, h⟩ := h
    obtain ⟨vs, e, h⟩ := need_some h
    obtain ⟨ids, e2, h⟩ := need_some h
    refine ⟨_, h, fun O G w a hr => ?_⟩
    have hv := vals_rep (a := a) e (fun x hx => hr x (by simp [Op.operands, Array.mem_toList_iff.1 hx]))
    obtain ⟨h1, h2⟩ := capIds_rep e2 hv
    refine ⟨.func (.func f) #[] (captured.map a.eval), by simp [execOp, Instr.makeFunc], ?_⟩
    refine ⟨?_, h2⟩
    rw [← h1]
    congr 1
    apply Array.ext'
    simp
  · rename_i args argTypes
    obtain ⟨vs, e, h⟩ := need_some h
    split at h
    · rename_i k a' k' b'
      refine ⟨_, h, fun O G w a hr => ⟨_, ?_, vint_rep _ _⟩⟩
      have hv := vals_rep (a := a) e (fun x hx => hr x (by simp only [Op.operands, Call.operands]; simp [Array.mem_toList_iff.1 hx]))
      simp only [repAVs] at hv
      obtain ⟨v1, r1, h1, h2, v2, r2, h3, h4, h5⟩ := hv
      subst h5 h3
      have e3 : args.map a.eval = #[v1, v2] := by apply Array.ext'; rw [Array.toList_map]; exact h1
      simp [execOp, resolve, invoke, builtin, Builtin.min_, e3, int_of h2, int_of h4, Builtin.min2]
    · exact h.elim
  · rename_i args argTypes
    obtain ⟨vs, e, h⟩ := need_some h
    split at h
    · rename_i k a' k' b'
      refine ⟨_, h, fun O G w a hr => ⟨_, ?_, vint_rep _ _⟩⟩
      have hv := vals_rep (a := a) e (fun x hx => hr x (by simp only [Op.operands, Call.operands]; simp [Array.mem_toList_iff.1 hx]))
      simp only [repAVs] at hv
      obtain ⟨v1, r1, h1, h2, v2, r2, h3, h4, h5⟩ := hv
      subst h5 h3
      have e3 : args.map a.eval = #[v1, v2] := by apply Array.ext'; rw [Array.toList_map]; exact h1
      simp [execOp, resolve, invoke, builtin, Builtin.max_, e3, int_of h2, int_of h4, Builtin.max2]
    · exact h.elim
  · exact h.elim
end
end Go.Vm
