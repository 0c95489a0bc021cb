/-
  The operations that read memory or make new objects, and their soundness.
  Conditions: the table of types fits the program ('TOk').
-/
import Derived.Test.YtpelgajmebgbaaaVmE
namespace Go.Vm
open Go.RowKit

def cellsOf : AV → Option (List C)
  | .c x => some [x]
  | .agg xs => some xs
  | _ => none
def scalT : C → Option T
  | .t (.int k n) => some (.int k n)
  | .t (.bool b) => some (.bool b)
  | .t (.str s) => some (.str s)
  | _ => none
def zeroT : C → T
  | .t x => x
  | _ => .lst []

/-- The parts of a struct literal, laid over its zero cells. -/
def fillC (E : Nat → Option TI) (offs : List (Nat × Nat)) (vl : Operand → Option AV) : List (Nat × Operand) → List C → Option (List C)
  | [], zs => some zs
  | (i, x) :: r, zs => match offs[i]?, vl x with
    | some (off, ty), some v => match cellsOf v, E ty with
      | some cs, some ti => bif (Nat.beq cs.length ti.size && Nat.ble (off + cs.length) zs.length) then fillC E offs vl r (zs.take off ++ cs ++ zs.drop (off + cs.length)) else none
      | _, _ => none
    | _, _ => none
/-- The parts of a slice literal: rows 0, 1, .. in order, each of 'sz' cells. -/
def rowsC (sz : Nat) (vl : Operand → Option AV) : Nat → List (Nat × Operand) → Option (List (List C))
  | _, [] => some []
  | k, (i, x) :: r => bif Nat.beq i k then (match vl x with
      | some v => match cellsOf v with
        | some cs => bif Nat.beq cs.length sz then (match rowsC sz vl (k + 1) r with | some rs => some (cs :: rs) | none => none) else none
        | none => none
      | none => none) else none

def loadT (ti : TI) (cells : List T) (off : Nat) (K : AV → Prop) : Prop :=
  scase ti.agg (((cells.drop off).take ti.size).length = ti.size ∧ K (.agg (((cells.drop off).take ti.size).map C.t))) (need (cells[off]?) fun x => K (.c (.t x)))
def loadC (ti : TI) (cells : List C) (off : Nat) (K : AV → Prop) : Prop :=
  scase ti.agg (((cells.drop off).take ti.size).length = ti.size ∧ K (.agg ((cells.drop off).take ti.size))) (need (cells[off]?) fun x => K (.c x))

def callee (vl : Operand → Option AV) (O : List (Nat × Ob)) (x : Operand) : Option (FuncId × List V) :=
  match vl x with
  | some (.c (.fn f ids)) => match mapO (boxT O) ids with | some bs => some (f, bs.map V.one) | none => none
  | some (.c (.t (.fn f caps))) => some (f, caps.map V.one)
  | _ => none

/-- The operations that read memory or make new objects. -/
def opB (P : Program) (E : Nat → Option TI) (vl : Operand → Option AV) (op : Op) (σ : St) (K : AV → St → Prop) : Prop :=
  match op with
  | .alloc t => need (E t) fun ti => K (.ptr σ.next 0) (σ.new (.box ti.zero))
  | .box _ x => need (vl x) fun v => need (cellsOf v) fun cs => K (.ptr σ.next 0) (σ.new (.box cs))
  | .build t parts => need (E t) fun ti => match ti.k with
    | .st offs => need (fillC E offs vl parts.toList ti.zero) fun cs => K (.agg cs) σ
    | _ => False
  | .buildSlice t len parts => need (E t) fun ti => match ti.k with
    | .sl e => need (E e) fun te => need (rowsC te.size vl 0 parts.toList) fun rows => (rows.length = len ∧ len * te.size ≤ 16777216 ∧ len ≤ 16777216) ∧
      match mapO (mapO scalT) rows with
      | some trows => K (.c (.ref σ.next)) (σ.new (.row true true te.size trows))
      | none => K (.c (.ref σ.next)) (σ.new (.tmp te.size rows))
    | _ => False
  | .load t a => need (E t) fun ti => need (vl a) fun
    | .ptr id off => need (get σ.objs id) fun
      | .box cs => loadC ti cs off (K · σ)
      | _ => False
    | .iptr id sz i off => need (get σ.objs id) fun
      | .row _ _ sz' rows => sz = sz' ∧ ∃ cs, rows[i]? = some cs ∧ loadT ti cs off (K · σ)
      | .tmp sz' rows => sz = sz' ∧ ∃ cs, rows[i]? = some cs ∧ loadC ti cs off (K · σ)
      | _ => False
    | .sptr cells off => loadT ti cells off (K · σ)
    | .c (.t (.box cells)) => loadT ti cells 0 (K · σ)
    | _ => False
  | .makeSlice t l c => need (E t) fun ti => match ti.k with
    | .sl e => need (E e) fun te => need (vl l) fun
      | .c (.t (.int _ n)) => need (vl c) fun
        | .c (.t (.int _ n')) => ∃ m : Nat, (n = m ∧ n' = m) ∧ (m * te.bytes ≤ 140737488355328 ∧ m ≤ 140737488355328) ∧
            K (.c (.ref σ.next)) (σ.new (.row true true te.size (List.replicate m (te.zero.map zeroT))))
        | _ => False
      | _ => False
    | _ => False
  | .indexAddr t x i => need (E t) fun ti => match ti.k with
    | .sl e => need (E e) fun te => need (vl i) fun
      | .c (.t (.int _ n)) => need (vl x) fun
        | .c (.ref id) => need (get σ.objs id) fun
          | .row _ _ sz rows => te.size = sz ∧ ∃ j : Nat, n = j ∧ j < rows.length ∧ K (.iptr id sz j 0) σ
          | .tmp sz rows => te.size = sz ∧ ∃ j : Nat, n = j ∧ j < rows.length ∧ K (.iptr id sz j 0) σ
          | _ => False
        | .c (.t (.lst rows)) => ∃ (j : Nat) (cs : List T), n = j ∧ rows[j]? = some cs ∧ cs.length = te.size ∧ K (.sptr cs 0) σ
        | .c (.view id sz lo hi) => te.size = sz ∧ ∃ j : Nat, n = j ∧ j < hi - lo ∧ K (.iptr id sz (lo + j) 0) σ
        | _ => False
      | _ => False
    | _ => False
  | .slice t x lo hi none => need (E t) fun ti => match ti.k with
    | .sl e => need (E e) fun te => need (vl x) fun
      | .c (.t (.lst rows)) =>
        ∃ l h : Nat, (match lo with | some y => vl y = some (vint .i64 l) | none => l = 0) ∧ (match hi with | some y => vl y = some (vint .i64 h) | none => h = rows.length) ∧
          (l ≤ h ∧ h ≤ rows.length) ∧ (∀ r ∈ rows, r.length = te.size) ∧ K (.c (.t (.lst ((rows.take h).drop l)))) σ
      | .c (.ref id) => need (get σ.objs id) fun
        | .row _ _ sz rows => te.size = sz ∧
          ∃ l h : Nat, (match lo with | some y => vl y = some (vint .i64 l) | none => l = 0) ∧ (match hi with | some y => vl y = some (vint .i64 h) | none => h = rows.length) ∧
            (l ≤ h ∧ h ≤ rows.length) ∧ K (.c (.view id sz l h)) σ
        | _ => False
      | _ => False
    | _ => False
  | .slice t x none (some h) (some m) => need (E t) fun ti => match ti.k with
    | .sl e => need (E e) fun _ => need (vl x) fun v => (vl h = some (vint .i64 0) ∧ vl m = some (vint .i64 0)) ∧
      match v with
      | .c (.t (.lst _)) => K (.c .nil0) σ
      | .c .nil => K (.c .nil0) σ
      | .c (.ref id) => need (get σ.objs id) fun
        | .row .. => K (.c .nil0) σ
        | _ => False
      | _ => False
    | _ => False
  | .convert s d x => need (E s) fun ts => match ts.k with
    | .sl e => need (E e) fun te => need (E d) fun td => (te.k = .int .u8 ∧ td.k = .str) ∧ need (vl x) fun v => need (argV σ.objs v) fun
      | .one (.lst rows) => ∃ bs : List UInt8, rows = bs.map (fun b => [T.int .u8 (b.toNat : Int)]) ∧ K (.c (.t (.str ⟨bs.toArray⟩))) σ
      | _ => False
    | _ => opA E vl (.convert s d x) (fun v => K v σ)
  | .call { callee := .builtin .len, args, argTypes } => match args.toList, argTypes.toList with
    | [x], [t] => need (E t) fun ti => match ti.k with
      | .sl _ => need (vl x) fun
        | .c .nil => K (vint .i64 0) σ
        | .c .nil0 => K (vint .i64 0) σ
        | .c (.t (.lst rows)) => K (vint .i64 (rows.length : Nat)) σ
        | .c (.view _ _ lo hi) => K (vint .i64 ((hi - lo : Nat) : Int)) σ
        | .c (.ref id) => need (get σ.objs id) fun
          | .row _ _ _ rows => K (vint .i64 (rows.length : Nat)) σ
          | .tmp _ rows => K (vint .i64 (rows.length : Nat)) σ
          | _ => False
        | _ => False
      | _ => False
    | _, _ => False
  | .call { callee := .value f, args, argTypes := _ } => need (callee vl σ.objs f) fun fe => need (vals vl args.toList) fun avs => need (mapO (argV σ.objs) avs) fun as =>
      ∃ rs, FnAt P fe.1 (as ++ fe.2) rs ∧ K (impR σ rs).1 (impR σ rs).2
  | _ => False

/-- What a run of such an operation gives, over whatever objects 'O' that hold those of σ' (more may be laid already). -/
def GoesB (P : Program) (vl : Operand → Option AV) (o : Oper) (σ σ' : St) (av : AV) : Prop :=
  ∀ (w0 : Base) O G w a (Kc : Act → World → Prop) (Q : Exit → Act → World → Prop), (∀ id ob, get σ'.objs id = some ob → get O id = some ob) → Mem w0 O G w → OpsRep vl o.op O G w a →
    (∀ j, σ.next ≤ j → j < σ'.next → ¬ G.A j) →
    (∀ G' v w', Mem w0 O G' w' → Pres O G w O G' w' → av.rep O G' w' v → (∀ j, G'.A j → G.A j ∨ (σ.next ≤ j ∧ j < σ'.next)) → Kc (a.put o.dst v) w') → o.wp P a w Kc Q

theorem wp_value {P : Program} {o : Oper} {a : Act} {w w' : World} {v : Value} {Kc : Act → World → Prop} {Q : Exit → Act → World → Prop}
    (h : (execOp a.eval o).run P w = .ok (.value v) w') (hk : Kc (a.put o.dst v) w') : o.wp P a w Kc Q := by
  unfold Oper.wp
  rw [h]
  exact hk

section
variable {P : Program} {E : Nat → Option TI} {O : List (Nat × Ob)} {G : Gh} {w : World} {w0 : Base}

theorem run_loadVar {t : Nat} {ti : TI} (hE : TIok P t ti) (ad : Addr) (w : World) (cs : List Value) (hc : ∀ (j : Nat) u, cs[j]? = some u → w.cell? (ad.add j) = some u) :
    (ti.agg = true → cs.length = ti.size → (loadVar t ad).run P w = .ok (.agg cs.toArray) w) ∧ (ti.agg = false → ∀ u, cs[0]? = some u → (loadVar t ad).run P w = .ok u w) := by
  obtain ⟨i, z, hi, hs, _⟩ := hE.info
  obtain ⟨d, hd, hag, _⟩ := hE.desc
  have hisagg : (isAgg t).run P w = .ok ti.agg w := by
    unfold isAgg
    rw [Sem.run_bind, run_underlying hd, ← hag]
    cases d <;> rfl
  refine ⟨fun ha hl => ?_, fun ha u hu => ?_⟩
  · have hr := run_loadCells_list (P := P) w ad cs hc
    unfold loadVar
    rw [Sem.run_bind, hisagg, ha]
    rw [hl, ← hs] at hr
    simp [sizeOf, typeInfo, hi, hr]
  · have h0 := hc 0 u hu
    rw [addr_add0] at h0
    unfold loadVar
    rw [Sem.run_bind, hisagg, ha]
    simp [run_load, h0]

theorem drop_get {α : Type} {xs : List α} {off j : Nat} {u : α} (h : (xs.drop off)[j]? = some u) : xs[off + j]? = some u := by rw [← h, List.getElem?_drop]

theorem loadT_sound {t : Nat} {ti : TI} (hE : TIok P t ti) {cells : List T} {off : Nat} {K : AV → Prop} (h : loadT ti cells off K) :
    ∃ av, K av ∧ ∀ O G w (ad : Addr) cs F, repCells w cells cs F → Imm O G F → (∀ (j : Nat) u, cs[j]? = some u → w.cell? (ad.add j) = some u) →
      ∃ v, (loadVar t (ad.add off)).run P w = .ok v w ∧ av.rep O G w v := by
  unfold loadT at h
  rcases scase_out h with ⟨ha, hl, h⟩ | ⟨ha, h⟩
  · refine ⟨_, h, fun O G w ad cs F hr him hc => ?_⟩
    obtain ⟨F', h1, h2⟩ := repCells_drop off hr
    have h3 : repCs O G w (((cells.drop off).take ti.size).map C.t) ((cs.drop off).take ti.size) := by
      rw [List.map_take]
      exact repCs_take ti.size (repCs_t h1 (him.sub h2))
    have hlen : ((cs.drop off).take ti.size).length = ti.size := by
      have := repCs_length h3
      rw [List.length_map] at this
      rw [this]; exact hl
    have hrun := (run_loadVar hE (ad.add off) w ((cs.drop off).take ti.size) (fun j u hu => ?_)).1 ha hlen
    · exact ⟨_, hrun, by simp only [AV.rep]; exact ⟨_, rfl, h3⟩⟩
    · rw [add_of_add]
      have hj : j < ti.size := by have := (List.getElem?_eq_some_iff.1 hu).1; omega
      rw [List.getElem?_take_of_lt hj] at hu
      exact hc _ u (drop_get hu)
  · obtain ⟨x, e, h⟩ := need_some h
    refine ⟨_, h, fun O G w ad cs F hr him hc => ?_⟩
    obtain ⟨v, F1, h1, h2, h3⟩ := repCells_get hr off x e
    have hrun := (run_loadVar hE (ad.add off) w [v] (fun j u hu => ?_)).2 ha v rfl
    · exact ⟨v, hrun, F1, h2, him.sub h3⟩
    · have hj : j = 0 := by have := (List.getElem?_eq_some_iff.1 hu).1; simpa using this
      subst hj
      simp at hu
      subst hu
      rw [addr_add0]
      exact hc off _ h1

theorem loadC_sound {t : Nat} {ti : TI} (hE : TIok P t ti) {cells : List C} {off : Nat} {K : AV → Prop} (h : loadC ti cells off K) :
    ∃ av, K av ∧ ∀ O G w (ad : Addr) cs, repCs O G w cells cs → (∀ (j : Nat) u, cs[j]? = some u → w.cell? (ad.add j) = some u) →
      ∃ v, (loadVar t (ad.add off)).run P w = .ok v w ∧ av.rep O G w v := by
  unfold loadC at h
  rcases scase_out h with ⟨ha, hl, h⟩ | ⟨ha, h⟩
  · refine ⟨_, h, fun O G w ad cs hr hc => ?_⟩
    have h3 : repCs O G w ((cells.drop off).take ti.size) ((cs.drop off).take ti.size) := repCs_take ti.size (repCs_drop off hr)
    have hlen : ((cs.drop off).take ti.size).length = ti.size := by rw [repCs_length h3]; exact hl
    have hrun := (run_loadVar hE (ad.add off) w ((cs.drop off).take ti.size) (fun j u hu => ?_)).1 ha hlen
    · exact ⟨_, hrun, by simp only [AV.rep]; exact ⟨_, rfl, h3⟩⟩
    · rw [add_of_add]
      have hj : j < ti.size := by have := (List.getElem?_eq_some_iff.1 hu).1; omega
      rw [List.getElem?_take_of_lt hj] at hu
      exact hc _ u (drop_get hu)
  · obtain ⟨x, e, h⟩ := need_some h
    refine ⟨_, h, fun O G w ad cs hr hc => ?_⟩
    obtain ⟨v, h1, h2⟩ := repCs_get hr e
    have hrun := (run_loadVar hE (ad.add off) w [v] (fun j u hu => ?_)).2 ha v rfl
    · exact ⟨v, hrun, h2⟩
    · have hj : j = 0 := by have := (List.getElem?_eq_some_iff.1 hu).1; simpa using this
      subst hj
      simp at hu
      subst hu
      rw [addr_add0]
      exact hc off _ h1

theorem lit_add (g j : Nat) : ((⟨g, 0, none⟩ : Addr).add j) = ⟨g, j, none⟩ := by unfold Addr.add; split <;> simp_all
theorem box_cells {g : Nat} {vs : List Value} {e : TypeId} (h : w.heap[g]? = some (.cells (List.toArray vs) e (0, 0))) : ∀ (j : Nat) u, vs[j]? = some u → w.cell? ((⟨g, 0, none⟩ : Addr).add j) = some u := fun j u hu => by
  rw [lit_add]
  simp only [World.cell?, h]
  simpa using hu

theorem newBlock (w : World) (cs : Array Value) (e : TypeId) : Below w.heap.size w (w.alloc (.cells cs e)) ∧ (w.alloc (.cells cs e)).heap[w.heap.size]? = some (.cells cs e (0, 0)) :=
  ⟨(Below.refl _ _).alloc (Nat.le_refl _) _, Go.heap_alloc_new w _⟩

/-- A new box. -/
theorem newBox_goes {vl : Operand → Option AV} {o : Oper} {σ : St} {cs : List C} (_hw : σ.wf)
    (hrun : ∀ O G w a, OpsRep vl o.op O G w a → ∃ vs e, repCs O G w cs vs ∧ (execOp a.eval o).run P w = .ok (.value (.pointer (some ⟨w.heap.size, 0, none⟩))) (w.alloc (.cells (List.toArray vs) e))) :
    GoesB P vl o σ (σ.new (.box cs)) (.ptr σ.next 0) := by
  intro w0 O G w a Kc Q hsub hM hops hfr hK
  obtain ⟨vs, e, hvs, hr⟩ := hrun O G w a hops
  obtain ⟨hb, hn⟩ := newBlock w (List.toArray vs) e
  have hOn : get O σ.next = some (.box cs) := hsub _ _ (σ.new_get _)
  obtain ⟨hφ, hΦ, hA⟩ := Gh.add_new (G := G) σ.next (.pointer (some ⟨w.heap.size, 0, none⟩)) [w.heap.size]
  obtain ⟨hM', hp⟩ := hM.new1 (w' := w.alloc (.cells (List.toArray vs) e)) σ.next (.pointer (some ⟨w.heap.size, 0, none⟩)) [w.heap.size] (hfr _ (Nat.le_refl _) (by simp [St.new])) hb (by simp)
    (by simp only [List.mem_singleton, forall_eq]; exact ⟨Nat.le_refl _, _, _, hn⟩) (by simp [hd]) (fun ob hob p => by
      rw [hOn] at hob
      injection hob with hob
      subst hob
      exact ⟨w.heap.size, vs, e, hφ, hn, repCs_pres p cs vs hvs, hΦ, hA.2⟩)
  refine wp_value hr (hK _ _ _ hM' hp ?_ (fun j hj => ?_))
  · simp only [AV.rep]
    exact ⟨hA.1, ⟨w.heap.size, 0, none⟩, hφ, by rw [addr_add0]⟩
  · rcases Gh.add_A hj with h | h
    · exact .inl h
    · exact .inr (by subst h; simp [St.new])
end
end Go.Vm
