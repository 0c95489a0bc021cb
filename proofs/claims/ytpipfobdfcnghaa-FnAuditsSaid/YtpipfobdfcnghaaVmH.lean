/-
  The contract of a function over abstract data ('FnAt'); how its results become objects of the caller's; how a caller's values read as arguments.
  The operations that read memory or make new objects, and their soundness.
  Soundness of the operations that read memory or make new objects.
  Soundness of the operations that read memory or make new objects: all of them.
  Conditions: the table of types fits the program ('TOk').
-/
import Derived.Test.YtpipfobdfcnghaaVmD
namespace Go.Vm
open Go.RowKit

structure St where
  env : List (Nat × AV)
  objs : List (Nat × Ob)
  next : Nat

def St.new (σ : St) (o : Ob) : St := ⟨σ.env, (σ.next, o) :: σ.objs, σ.next + 1⟩
def St.put (σ : St) (d : Option Nat) (v : AV) : St := match d with | some k => ⟨(k, v) :: σ.env, σ.objs, σ.next⟩ | none => σ
def St.wf (σ : St) : Prop := ∀ id o, get σ.objs id = some o → id < σ.next
structure St.ext (σ σ' : St) : Prop where
  env : σ'.env = σ.env
  next : σ.next ≤ σ'.next
  objs : ∀ id, id < σ.next → get σ'.objs id = get σ.objs id

theorem St.ext_refl (σ : St) : σ.ext σ := ⟨rfl, Nat.le_refl _, fun _ _ => rfl⟩
theorem St.ext_trans {a b c : St} (h : a.ext b) (k : b.ext c) : a.ext c :=
  ⟨k.env.trans h.env, Nat.le_trans h.next k.next, fun id hi => (k.objs id (Nat.lt_of_lt_of_le hi h.next)).trans (h.objs id hi)⟩
theorem St.ext_new (σ : St) (o : Ob) : σ.ext (σ.new o) := ⟨rfl, by simp [St.new], fun id hi => get_cons_other _ _ _ _ (by omega)⟩
theorem St.wf_new (σ : St) (h : σ.wf) (o : Ob) : (σ.new o).wf := by
  intro id x hx
  by_cases e : id = σ.next
  · subst e; simp [St.new]
  · have := h id x (by rw [← hx]; exact (get_cons_other _ _ _ _ e).symm)
    simp only [St.new]
    omega
theorem St.new_get (σ : St) (o : Ob) : get (σ.new o).objs σ.next = some o := get_cons_same _ _ _

def repVs (w : World) : List V → List Value → Prop
  | [], vs => vs = []
  | x :: xs, vs => ∃ v vs' F, vs = v :: vs' ∧ x.rep w v F ∧ repVs w xs vs'

/-- A result's cell: data without blocks; a row in new memory that may be appended to; a row in new memory of which only the cells are known. -/
inductive RC where
  | s (x : T)
  | l (sz : Nat) (rows : List (List T))
  | w (sz : Nat) (rows : List (List T))
inductive RV where
  | one (x : RC)
  | agg (xs : List RC)

def RC.rep (w : World) : RC → Value → List Nat → Prop
  | .s x, v, F => x.rep w v [] ∧ F = []
  | .l sz rows, v, F => ∃ css F', repRows w rows css F' ∧ (∀ cs ∈ css, cs.length = sz) ∧ RowOwn w v rows.length sz css.flatten ∧ F = hd v ++ F'
  | .w sz rows, v, F => ∃ css F', repRows w rows css F' ∧ (∀ cs ∈ css, cs.length = sz) ∧ RowWeak w v rows.length sz css ∧ F = hd v ++ F'
def repRCs (w : World) : List RC → List Value → List Nat → Prop
  | [], vs, F => vs = [] ∧ F = []
  | x :: xs, vs, F => ∃ v vs' F1 F2, vs = v :: vs' ∧ F = F1 ++ F2 ∧ x.rep w v F1 ∧ repRCs w xs vs' F2
def RV.rep (w : World) : RV → Value → List Nat → Prop
  | .one x, v, F => x.rep w v F
  | .agg xs, v, F => ∃ vs, v = .agg (List.toArray vs) ∧ repRCs w xs vs F
def repRVs (w : World) : List RV → List Value → List Nat → Prop
  | [], vs, F => vs = [] ∧ F = []
  | x :: xs, vs, F => ∃ v vs' F1 F2, vs = v :: vs' ∧ F = F1 ++ F2 ∧ x.rep w v F1 ∧ repRVs w xs vs' F2

def retOf : List Value → Value → Prop
  | [x], v => v = x
  | vs, v => v = .tuple vs.toArray

def Enter (P : Program) (f : FuncId) : Prop := ∃ fn c, P.funcs[f]? = some fn ∧ fn.body = some c ∧ (fn.name == "runtime.NumGoroutine") = false

/-- THE CONTRACT: called with values that read as 'args', whatever the memory, the function returns values that read as 'rs', in new memory that lies apart; nothing that was there has turned. -/
def FnAt (P : Program) (f : FuncId) (args : List V) (rs : List RV) : Prop :=
  Enter P f ∧ ∀ (w : World) (vs : List Value), repVs w args vs →
    Calls P f vs.toArray w fun e w' => ∃ us F v, e = .returned v ∧ retOf us v ∧ repRVs w' rs us F ∧ F.Nodup ∧
      (∀ b ∈ F, w.heap.size ≤ b ∧ ∃ arr e, w'.heap[b]? = some (.cells arr e (0, 0))) ∧ Below w.heap.size w w'

/-! ### Results taken in -/
def impC (σ : St) : RC → C × St
  | .s x => (.t x, σ)
  | .l sz rows => (.ref σ.next, σ.new (.row true true sz rows))
  | .w sz rows => (.ref σ.next, σ.new (.row true false sz rows))
def impCs (σ : St) : List RC → List C × St
  | [] => ([], σ)
  | x :: xs => ((impC σ x).1 :: (impCs (impC σ x).2 xs).1, (impCs (impC σ x).2 xs).2)
def impV (σ : St) : RV → AV × St
  | .one x => (.c (impC σ x).1, (impC σ x).2)
  | .agg xs => (.agg (impCs σ xs).1, (impCs σ xs).2)
def impVs (σ : St) : List RV → List AV × St
  | [] => ([], σ)
  | x :: xs => ((impV σ x).1 :: (impVs (impV σ x).2 xs).1, (impVs (impV σ x).2 xs).2)
def impR (σ : St) : List RV → AV × St
  | [x] => impV σ x
  | xs => (.tup (impVs σ xs).1, (impVs σ xs).2)

/-- What the ghost gets for results that are taken in: from σ to σ' the ids are laid for 'l'. -/
structure Imp (w : World) (σ σ' : St) (l : List (Value × List Nat)) (F : List Nat) (R : List (Nat × Ob) → Gh → Prop) : Prop where
  ext : σ.ext σ'
  wf : σ'.wf
  next : σ'.next = σ.next + l.length
  flat : (l.map (·.2)).flatten = F
  hds : ∀ p ∈ l, ∀ b ∈ hd p.1, b ∈ p.2
  have_ : ∀ k, k < l.length → ∃ o, get σ'.objs (σ.next + k) = some o
  obs : ∀ k (hk : k < l.length) o, get σ'.objs (σ.next + k) = some o → ∀ O G, G.φ (σ.next + k) = l[k].1 → (G.Φ (σ.next + k) = l[k].2 ∧ G.h (σ.next + k) = hd l[k].1) → o.rep O G w (σ.next + k)
  rep : ∀ O G, (∀ k (hk : k < l.length), G.A (σ.next + k) ∧ G.φ (σ.next + k) = l[k].1) → R O G

theorem Imp.cons {w : World} {σ a b : St} {l m : List (Value × List Nat)} {F1 F2 : List Nat} {R1 R2 : List (Nat × Ob) → Gh → Prop} (h : Imp w σ a l F1 R1) (k : Imp w a b m F2 R2) :
    Imp w σ b (l ++ m) (F1 ++ F2) (fun O G => R1 O G ∧ R2 O G) := by
  have hn := h.next
  refine ⟨St.ext_trans h.ext k.ext, k.wf, by rw [k.next, h.next, List.length_append]; omega, by rw [List.map_append, List.flatten_append, h.flat, k.flat], fun p hp => ?_, fun i hi => ?_, fun i hi o hg O G hφ hΦ => ?_, fun O G hG => ⟨h.rep O G fun i hi => ?_, k.rep O G fun i hi => ?_⟩⟩
  · rcases List.mem_append.1 hp with hp | hp
    · exact h.hds p hp
    · exact k.hds p hp
  · by_cases hlt : i < l.length
    · obtain ⟨o, ho⟩ := h.have_ i hlt
      exact ⟨o, by rw [k.ext.objs _ (by omega)]; exact ho⟩
    · rw [List.length_append] at hi
      obtain ⟨o, ho⟩ := k.have_ (i - l.length) (by omega)
      exact ⟨o, by rw [← ho, hn]; congr 1; omega⟩
  · by_cases hlt : i < l.length
    · rw [List.getElem_append_left hlt] at hφ hΦ
      exact h.obs i hlt o (by rw [← hg]; exact (k.ext.objs _ (by omega)).symm) O G hφ hΦ
    · have e : a.next + (i - l.length) = σ.next + i := by omega
      rw [List.getElem_append_right (by omega)] at hφ hΦ
      rw [List.length_append] at hi
      have := k.obs (i - l.length) (by omega) o (by rw [e]; exact hg) O G (by rw [e]; exact hφ) (by rw [e]; exact hΦ)
      rwa [e] at this
  · have := hG i (by rw [List.length_append]; omega)
    rw [List.getElem_append_left hi] at this
    exact this
  · have e : a.next + i = σ.next + (l.length + i) := by omega
    have := hG (l.length + i) (by rw [List.length_append]; omega)
    rw [List.getElem_append_right (by omega)] at this
    rw [e]
    simpa using this

theorem one_slice (A : Option Addr) (n c : Nat) : one (.slice A n c) := ⟨rfl, rfl⟩
theorem RowOwn.one {w : World} {v : Value} {n sz : Nat} {xs : List Value} (h : RowOwn w v n sz xs) : one v := by
  rcases h.2 with ⟨A, rfl, _⟩ | ⟨g, o, cap, cur, e, rfl, _⟩ <;> exact one_slice _ _ _
theorem RowWeak.one {w : World} {v : Value} {n sz : Nat} {xs : List (List Value)} (h : RowWeak w v n sz xs) : one v := by
  obtain ⟨A, c, rfl, _⟩ := h
  exact one_slice _ _ _

theorem impC_sound {w : World} {σ : St} (hw : σ.wf) : ∀ (x : RC) {v : Value} {F : List Nat}, x.rep w v F → ∃ l, Imp w σ (impC σ x).2 l F (fun O G => (impC σ x).1.rep O G w v)
  | .s x, v, F, ⟨h, hF⟩ => ⟨[], by
      subst hF
      exact ⟨σ.ext_refl, hw, rfl, rfl, by simp, by simp, by simp, fun O G _ => ⟨[], h, fun _ _ b hb => by simp at hb⟩⟩⟩
  | .l sz rows, v, F, ⟨css, F', h1, h2, h3, hF⟩ => ⟨[(v, F)], by
      refine ⟨σ.ext_new _, St.wf_new σ hw _, rfl, by simp, by simp +contextual [hF], fun k hk => ⟨_, by simp at hk; subst hk; exact σ.new_get _⟩, fun k hk o hg O G hφ hΦ => ?_, fun O G hG => ?_⟩
      · simp at hk
        subst hk
        have e : get (σ.new (.row true true sz rows)).objs σ.next = some o := hg
        rw [σ.new_get] at e
        injection e with e
        subst e
        have hφ' : G.φ σ.next = v := hφ
        have hΦ' : G.Φ σ.next = F := hΦ.1
        have hH' : G.h σ.next = hd v := hΦ.2
        show Ob.rep O G w σ.next _
        refine ⟨css, F', h1, h2, ?_, ?_⟩
        · simp only [if_true]; rw [hφ']; exact ⟨h3, hH'⟩
        · simp only [if_true]; rw [hH', hΦ', hF]
      · have := hG 0 (by simp)
        exact ⟨this.1, this.2.symm, h3.one⟩⟩
  | .w sz rows, v, F, ⟨css, F', h1, h2, h3, hF⟩ => ⟨[(v, F)], by
      refine ⟨σ.ext_new _, St.wf_new σ hw _, rfl, by simp, by simp +contextual [hF], fun k hk => ⟨_, by simp at hk; subst hk; exact σ.new_get _⟩, fun k hk o hg O G hφ hΦ => ?_, fun O G hG => ?_⟩
      · simp at hk
        subst hk
        have e : get (σ.new (.row true false sz rows)).objs σ.next = some o := hg
        rw [σ.new_get] at e
        injection e with e
        subst e
        have hφ' : G.φ σ.next = v := hφ
        have hΦ' : G.Φ σ.next = F := hΦ.1
        have hH' : G.h σ.next = hd v := hΦ.2
        show Ob.rep O G w σ.next _
        refine ⟨css, F', h1, h2, ?_, ?_⟩
        · simp only [Bool.false_eq_true, if_false]; rw [hφ']; exact ⟨h3, .inl hH'⟩
        · simp only [if_true]; rw [hH', hΦ', hF]
      · have := hG 0 (by simp)
        exact ⟨this.1, this.2.symm, h3.one⟩⟩

theorem impCs_sound {w : World} : ∀ (xs : List RC) {σ : St} {vs : List Value} {F : List Nat}, σ.wf → repRCs w xs vs F → ∃ l, Imp w σ (impCs σ xs).2 l F (fun O G => repCs O G w (impCs σ xs).1 vs)
  | [], σ, vs, F, hw, ⟨h1, h2⟩ => ⟨[], by subst h1 h2; exact ⟨σ.ext_refl, hw, rfl, rfl, by simp, by simp, by simp, fun O G _ => rfl⟩⟩
  | x :: xs, σ, vs, F, hw, ⟨v, vs', F1, F2, h1, h2, h3, h4⟩ => by
    subst h1 h2
    obtain ⟨l, hl⟩ := impC_sound hw x h3
    obtain ⟨m, hm⟩ := impCs_sound xs hl.wf h4
    have := hl.cons hm
    exact ⟨l ++ m, ⟨this.ext, this.wf, this.next, this.flat, this.hds, this.have_, this.obs, fun O G hG => ⟨v, vs', rfl, (this.rep O G hG).1, (this.rep O G hG).2⟩⟩⟩

theorem impV_sound {w : World} {σ : St} (hw : σ.wf) : ∀ (x : RV) {v : Value} {F : List Nat}, x.rep w v F → ∃ l, Imp w σ (impV σ x).2 l F (fun O G => (impV σ x).1.rep O G w v)
  | .one x, v, F, h => impC_sound hw x h
  | .agg xs, v, F, ⟨vs, h1, h2⟩ => by
    obtain ⟨l, this⟩ := impCs_sound xs hw h2
    exact ⟨l, ⟨this.ext, this.wf, this.next, this.flat, this.hds, this.have_, this.obs, fun O G hG => by
      simp only [impV, AV.rep]
      exact ⟨vs, h1, this.rep O G hG⟩⟩⟩
theorem impVs_sound {w : World} : ∀ (xs : List RV) {σ : St} {vs : List Value} {F : List Nat}, σ.wf → repRVs w xs vs F → ∃ l, Imp w σ (impVs σ xs).2 l F (fun O G => repAVs O G w (impVs σ xs).1 vs)
  | [], σ, vs, F, hw, ⟨h1, h2⟩ => ⟨[], by subst h1 h2; exact ⟨σ.ext_refl, hw, rfl, rfl, by simp, by simp, by simp, fun O G _ => by simp only [impVs, repAVs]⟩⟩
  | x :: xs, σ, vs, F, hw, ⟨v, vs', F1, F2, h1, h2, h3, h4⟩ => by
    subst h1 h2
    obtain ⟨l, hl⟩ := impV_sound hw x h3
    obtain ⟨m, hm⟩ := impVs_sound xs hl.wf h4
    have := hl.cons hm
    exact ⟨l ++ m, ⟨this.ext, this.wf, this.next, this.flat, this.hds, this.have_, this.obs, fun O G hG => by
      simp only [impVs, repAVs]
      exact ⟨v, vs', rfl, (this.rep O G hG).1, (this.rep O G hG).2⟩⟩⟩
theorem impR_sound {w : World} {xs : List RV} {σ : St} {vs : List Value} {v : Value} {F : List Nat} (hw : σ.wf) (h : repRVs w xs vs F) (hv : retOf vs v) :
    ∃ l, Imp w σ (impR σ xs).2 l F (fun O G => (impR σ xs).1.rep O G w v) := by
  match xs, h with
  | [x], ⟨u, vs', F1, F2, h1, h2, h3, h4⟩ =>
    obtain ⟨h5, h6⟩ := h4
    subst h5 h6 h1
    simp only [retOf] at hv
    subst hv
    have := impV_sound hw x h3
    simpa [h2, impR] using this
  | [], h =>
    obtain ⟨h1, h2⟩ := h
    subst h1 h2
    simp only [retOf] at hv
    subst hv
    obtain ⟨l, this⟩ := impVs_sound (w := w) [] hw ⟨rfl, rfl⟩
    exact ⟨l, ⟨this.ext, this.wf, this.next, this.flat, this.hds, this.have_, this.obs, fun O G hG => by
      simp only [impR, AV.rep]
      exact ⟨[], rfl, this.rep O G hG⟩⟩⟩
  | x :: y :: zs, h =>
    obtain ⟨l, this⟩ := impVs_sound (x :: y :: zs) hw h
    have e : v = .tuple vs.toArray := by
      obtain ⟨u, vs', F1, F2, h1, h2, h3, u', vs'', F3, F4, h4, h5, h6⟩ := h
      subst h1 h4
      exact hv
    exact ⟨l, ⟨this.ext, this.wf, this.next, this.flat, this.hds, this.have_, this.obs, fun O G hG => by
      simp only [impR, AV.rep]
      exact ⟨vs, e, this.rep O G hG⟩⟩⟩

/-! ### A caller's values as arguments -/
def mapO {α β : Type} (f : α → Option β) : List α → Option (List β)
  | [] => some []
  | x :: xs => match f x, mapO f xs with
    | some y, some ys => some (y :: ys)
    | _, _ => none
def T1 (O : List (Nat × Ob)) : C → Option T
  | .nil => some (.lst [])
  | .nil0 => some (.lst [])
  | .anc x => some x
  | .t x => some x
  | .ref id => match get O id with
    | some (.row _ _ _ rows) => some (.lst rows)
    | some (.vw rows) => some (.lst rows)
    | _ => none
  | .view id sz lo hi => match get O id with
    | some (.row _ _ sz' rows) => bif Nat.beq sz sz' then some (.lst ((rows.take hi).drop lo)) else none
    | _ => none
  | _ => none
def boxT (O : List (Nat × Ob)) (id : Nat) : Option T := match get O id with
  | some (.box cs) => match mapO (T1 O) cs with | some ts => some (.box ts) | none => none
  | _ => none
def T2 (O : List (Nat × Ob)) : C → Option T
  | .fn f ids => match mapO (boxT O) ids with | some bs => some (.fn f bs) | none => none
  | .ref id => match get O id with
    | some (.row _ _ _ rows) => some (.lst rows)
    | some (.vw rows) => some (.lst rows)
    | some (.tmp _ rows) => match mapO (mapO (T1 O)) rows with | some ts => some (.lst ts) | none => none
    | _ => none
  | x => T1 O x
def argV (O : List (Nat × Ob)) : AV → Option V
  | .c x => match T2 O x with | some y => some (.one y) | none => none
  | .agg xs => match mapO (T2 O) xs with | some ys => some (.agg ys) | none => none
  | .ptr id 0 => match boxT O id with | some b => some (.one b) | none => none
  | _ => none

section
variable {O : List (Nat × Ob)} {G : Gh} {w : World} {w0 : Base}

theorem repRows_cut : ∀ {xs : List (List T)} {vs : List (List Value)} {F : List Nat} (n : Nat), repRows w xs vs F → ∃ F1 F2, F = F1 ++ F2 ∧ repRows w (xs.take n) (vs.take n) F1 ∧ repRows w (xs.drop n) (vs.drop n) F2
  | [], vs, F, n, h => by simp only [repRows] at h; obtain ⟨rfl, rfl⟩ := h; exact ⟨[], [], rfl, by simp [repRows], by simp [repRows]⟩
  | x :: xs, vs, F, n, h => by
    cases n with
    | zero => exact ⟨[], F, rfl, by simp [repRows], by simpa using h⟩
    | succ n =>
      simp only [repRows] at h
      obtain ⟨v, cs', F1, F2, rfl, rfl, h3, h4⟩ := h
      obtain ⟨F3, F4, rfl, h5, h6⟩ := repRows_cut n h4
      exact ⟨F1 ++ F3, F4, by simp, by simp only [List.take_succ_cons, repRows]; exact ⟨v, _, F1, F3, rfl, rfl, h3, h5⟩, by simpa using h6⟩

/-- A part of a row. -/
theorem Mem.view (hM : Mem w0 O G w) {id sz lo hi : Nat} {own app : Bool} {rows : List (List T)} {v : Value} (hr : (C.view id sz lo hi).rep O G w v) (hg : get O id = some (.row own app sz rows)) :
    ∃ css F, repRows w ((rows.take hi).drop lo) css F ∧ (∀ cs ∈ css, cs.length = sz) ∧ RowWeak w v ((rows.take hi).drop lo).length sz css ∧ Imm O G F := by
  obtain ⟨h1, h2, A, c, h3, h0, h4⟩ := hr
  obtain ⟨css, F', h6, h7, h8, h9⟩ := hM.row h1 hg
  obtain ⟨F1, F2, rfl, r1, r2⟩ := repRows_cut hi h6
  obtain ⟨F3, F4, rfl, r3, r4⟩ := repRows_cut lo r1
  refine ⟨(css.take hi).drop lo, F4, r4, fun cs hcs => h7 cs (List.mem_of_mem_take (List.mem_of_mem_drop hcs)), ?_, h9.sub (fun b hb => by simp [hb])⟩
  by_cases hlt : lo < hi
  · obtain ⟨ad, n, c', h5, rfl, hn, _⟩ := h4 hlt
    obtain ⟨A', c2, h10, h11, h12⟩ := h8
    rw [h5] at h10
    injection h10 with e1 e2 e3
    subst e2 e3
    obtain ⟨ad', e4, hcell, hgrid⟩ := h12 (by omega)
    rw [e4] at e1
    injection e1 with e1
    subst e1
    have hlen : ((rows.take hi).drop lo).length = hi - lo := by rw [List.length_drop, List.length_take, Nat.min_eq_left hn]
    rw [hlen]
    refine ⟨_, c, h3, h0, fun _ => ⟨_, rfl, by rw [block_of_add]; exact hcell, fun i cs hi2 j u hu => ?_⟩⟩
    rw [List.getElem?_drop] at hi2
    have hlt2 : lo + i < hi := by have := (List.getElem?_eq_some_iff.1 hi2).1; simp at this; omega
    rw [List.getElem?_take_of_lt hlt2] at hi2
    rw [add_of_add, ← Nat.add_assoc, ← Nat.add_mul]
    exact hgrid (lo + i) cs hi2 j u hu
  · have hlen : ((rows.take hi).drop lo).length = 0 := by rw [List.length_drop, List.length_take]; have := Nat.min_le_left hi rows.length; omega
    rw [hlen]
    refine ⟨A, c, by rw [h3]; congr 1; omega, Nat.zero_le _, fun h => absurd h (by omega)⟩

theorem T1_sound (hM : Mem w0 O G w) {x : C} {y : T} {v : Value} (h : T1 O x = some y) (hr : x.rep O G w v) : ∃ F, y.rep w v F := by
  cases x with
  | nil =>
    simp only [T1, Option.some.injEq] at h
    subst h
    have hr' : v = .slice none 0 0 := hr
    subst hr'
    exact ⟨[], by simp only [T.rep]; exact ⟨none, 0, rfl, Nat.le_refl _, .inl ⟨trivial, trivial⟩⟩⟩
  | nil0 =>
    simp only [T1, Option.some.injEq] at h
    subst h
    obtain ⟨A, hr⟩ := hr
    subst hr
    exact ⟨[], by simp only [T.rep]; exact ⟨A, 0, rfl, Nat.le_refl _, .inl ⟨trivial, trivial⟩⟩⟩
  | t x =>
    simp only [T1, Option.some.injEq] at h
    subst h
    obtain ⟨F, h1, _⟩ := hr
    exact ⟨F, h1⟩
  | anc x =>
    simp only [T1, Option.some.injEq] at h
    subst h
    obtain ⟨F, h1, _⟩ := hr
    exact ⟨F, h1⟩
  | ref id =>
    simp only [T1] at h
    split at h
    · rename_i own app sz rows hg
      injection h with h
      subst h
      obtain ⟨h1, h2, _⟩ := hr
      subst h2
      obtain ⟨css, F', h3, h4, h5, _⟩ := hM.row h1 hg
      obtain ⟨F, h6, _⟩ := h5.rep h3 h4
      exact ⟨F, h6⟩
    · rename_i rows hg
      injection h with h
      subst h
      obtain ⟨h1, h2, _⟩ := hr
      subst h2
      obtain ⟨⟨F, h6, _⟩, _⟩ := hM.obs id _ h1 hg
      exact ⟨F, h6⟩
    · cases h
  | fn f ids => simp [T1] at h
  | view id sz lo hi =>
    simp only [T1] at h
    split at h
    · rename_i own app sz' rows hg
      cases hb : Nat.beq sz sz' with
      | false => rw [hb] at h; cases h
      | true =>
        rw [hb] at h
        injection h with h
        subst h
        have := Nat.eq_of_beq_eq_true hb
        subst this
        obtain ⟨css, F', h3, h4, h5, _⟩ := hM.view hr hg
        obtain ⟨F, h6, _⟩ := h5.rep h3 h4
        exact ⟨F, h6⟩
    · cases h
theorem T1s_sound (hM : Mem w0 O G w) : ∀ {xs : List C} {ys : List T} {vs : List Value}, mapO (T1 O) xs = some ys → repCs O G w xs vs → ∃ F, repCells w ys vs F
  | [], ys, vs, h, hr => by simp only [mapO, Option.some.injEq] at h; subst h; exact ⟨[], by simp only [repCells]; exact ⟨hr, trivial⟩⟩
  | x :: xs, ys, vs, h, ⟨v, vs', h1, h2, h3⟩ => by
    simp only [mapO] at h
    split at h
    · rename_i y ys' e1 e2
      injection h with h
      subst h h1
      obtain ⟨F1, h4⟩ := T1_sound hM e1 h2
      obtain ⟨F2, h5⟩ := T1s_sound hM e2 h3
      exact ⟨F1 ++ F2, by simp only [repCells]; exact ⟨v, vs', F1, F2, rfl, rfl, h4, h5⟩⟩
    · cases h
theorem T1ss_sound (hM : Mem w0 O G w) : ∀ {xs : List (List C)} {ys : List (List T)} {vs : List (List Value)}, mapO (mapO (T1 O)) xs = some ys → repCss O G w xs vs → ∃ F, repRows w ys vs F
  | [], ys, vs, h, hr => by simp only [mapO, Option.some.injEq] at h; subst h; exact ⟨[], by simp only [repRows]; exact ⟨hr, trivial⟩⟩
  | x :: xs, ys, vs, h, ⟨v, vs', h1, h2, h3⟩ => by
    simp only [mapO] at h
    split at h
    · rename_i y ys' e1 e2
      injection h with h
      subst h h1
      obtain ⟨F1, h4⟩ := T1s_sound hM e1 h2
      obtain ⟨F2, h5⟩ := T1ss_sound hM e2 h3
      exact ⟨F1 ++ F2, by simp only [repRows]; exact ⟨v, vs', F1, F2, rfl, rfl, h4, h5⟩⟩
    · cases h
theorem boxT_sound (hM : Mem w0 O G w) {id : Nat} {y : T} (h : boxT O id = some y) (ha : G.A id) : ∃ F, y.rep w (G.φ id) F := by
  simp only [boxT] at h
  split at h
  · rename_i cs hg
    split at h
    · rename_i ts e
      injection h with h
      subst h
      obtain ⟨g, vs, el, h1, h2, h3, h4⟩ := hM.obs id _ ha hg
      obtain ⟨F, h5⟩ := T1s_sound hM e h3
      refine ⟨g :: F, ?_⟩
      simp only [T.rep]
      refine ⟨⟨g, 0, none⟩, vs, F, h1, (Array.getElem?_eq_some_iff.1 h2).1, rfl, h5, fun j u hu => ?_⟩
      have hadd : ((⟨g, 0, none⟩ : Addr).add j) = ⟨g, j, none⟩ := by unfold Addr.add; split <;> simp_all
      rw [hadd]
      simp only [World.cell?, h2]
      simpa using hu
    · cases h
  · cases h
theorem boxTs_sound (hM : Mem w0 O G w) : ∀ {ids : List Nat} {ys : List T}, mapO (boxT O) ids = some ys → (∀ id ∈ ids, G.A id) → ∃ F, repCells w ys (ids.map G.φ) F
  | [], ys, h, _ => by simp only [mapO, Option.some.injEq] at h; subst h; exact ⟨[], by simp [repCells]⟩
  | x :: xs, ys, h, ha => by
    simp only [mapO] at h
    split at h
    · rename_i y ys' e1 e2
      injection h with h
      subst h
      obtain ⟨F1, h4⟩ := boxT_sound hM e1 (ha x (by simp))
      obtain ⟨F2, h5⟩ := boxTs_sound hM e2 (fun id hi => ha id (by simp [hi]))
      exact ⟨F1 ++ F2, by simp only [List.map_cons, repCells]; exact ⟨_, _, F1, F2, rfl, rfl, h4, h5⟩⟩
    · cases h
theorem T2_sound (hM : Mem w0 O G w) {x : C} {y : T} {v : Value} (h : T2 O x = some y) (hr : x.rep O G w v) : ∃ F, y.rep w v F := by
  cases x with
  | nil => exact T1_sound hM (x := .nil) h hr
  | nil0 => exact T1_sound hM (x := .nil0) h hr
  | t x => exact T1_sound hM (x := .t x) h hr
  | anc x => exact T1_sound hM (x := .anc x) h hr
  | view id sz lo hi => exact T1_sound hM (x := .view id sz lo hi) h hr
  | ref id =>
    simp only [T2] at h
    split at h
    · rename_i hg
      exact T1_sound hM (x := .ref id) (by simp only [T1, hg]; exact h) hr
    · rename_i hg
      exact T1_sound hM (x := .ref id) (by simp only [T1, hg]; exact h) hr
    · rename_i sz rows hg
      split at h
      · rename_i ts e
        injection h with h
        subst h
        obtain ⟨h1, h2, _⟩ := hr
        subst h2
        obtain ⟨css, h3, h4, h5, h6⟩ := hM.obs id _ h1 hg
        obtain ⟨F, h7⟩ := T1ss_sound hM e h3
        have hl : rows.length = ts.length := by
          have a1 := repRows_length h7
          have a2 : ∀ {xs : List (List C)} {vs : List (List Value)}, repCss O G w xs vs → vs.length = xs.length := by
            intro xs
            induction xs with
            | nil => intro vs h; simp only [repCss] at h; simp [h]
            | cons a as ih => intro vs h; obtain ⟨v, vs', h1, h2, h3⟩ := h; subst h1; simp [ih h3]
          rw [← a1, a2 h3]
        rw [hl] at h5
        obtain ⟨F2, h8, _⟩ := (h5.weak h4).rep h7 h4
        exact ⟨F2, h8⟩
      · cases h
    · cases h
  | fn f ids =>
    simp only [T2] at h
    split at h
    · rename_i bs e
      injection h with h
      subst h
      obtain ⟨h1, h2⟩ := hr
      obtain ⟨F, h3⟩ := boxTs_sound hM e h2
      exact ⟨F, by simp only [T.rep]; exact ⟨_, h1, h3⟩⟩
    · cases h
theorem T2s_sound (hM : Mem w0 O G w) : ∀ {xs : List C} {ys : List T} {vs : List Value}, mapO (T2 O) xs = some ys → repCs O G w xs vs → ∃ F, repCells w ys vs F
  | [], ys, vs, h, hr => by simp only [mapO, Option.some.injEq] at h; subst h; exact ⟨[], by simp only [repCells]; exact ⟨hr, trivial⟩⟩
  | x :: xs, ys, vs, h, ⟨v, vs', h1, h2, h3⟩ => by
    simp only [mapO] at h
    split at h
    · rename_i y ys' e1 e2
      injection h with h
      subst h h1
      obtain ⟨F1, h4⟩ := T2_sound hM e1 h2
      obtain ⟨F2, h5⟩ := T2s_sound hM e2 h3
      exact ⟨F1 ++ F2, by simp only [repCells]; exact ⟨v, vs', F1, F2, rfl, rfl, h4, h5⟩⟩
    · cases h
theorem addr_add0 (a : Addr) : a.add 0 = a := by simp [Addr.add]
theorem argV_sound (hM : Mem w0 O G w) {x : AV} {y : V} {v : Value} (h : argV O x = some y) (hr : x.rep O G w v) : ∃ F, y.rep w v F := by
  unfold argV at h
  split at h
  · split at h
    · rename_i e
      injection h with h
      subst h
      simp only [AV.rep] at hr
      exact T2_sound hM e hr
    · cases h
  · split at h
    · rename_i e
      injection h with h
      subst h
      simp only [AV.rep] at hr
      obtain ⟨vs, h1, h2⟩ := hr
      obtain ⟨F, h3⟩ := T2s_sound hM e h2
      exact ⟨F, vs, h1, h3⟩
    · cases h
  · split at h
    · rename_i e
      injection h with h
      subst h
      simp only [AV.rep] at hr
      obtain ⟨h1, ad, h2, h3⟩ := hr
      rw [addr_add0, ← h2] at h3
      subst h3
      exact boxT_sound hM e h1
    · cases h
  · cases h
theorem argVs_sound (hM : Mem w0 O G w) : ∀ {xs : List AV} {ys : List V} {vs : List Value}, mapO (argV O) xs = some ys → repAVs O G w xs vs → repVs w ys vs
  | [], ys, vs, h, hr => by simp only [mapO, Option.some.injEq] at h; subst h; simpa only [repAVs, repVs] using hr
  | x :: xs, ys, vs, h, hr => by
    simp only [mapO] at h
    split at h
    · rename_i y ys' e1 e2
      injection h with h
      subst h
      simp only [repAVs] at hr
      obtain ⟨v, vs', h1, h2, h3⟩ := hr
      obtain ⟨F, h4⟩ := argV_sound hM e1 h2
      exact ⟨v, vs', F, h1, h4, argVs_sound hM e2 h3⟩
    · cases h
theorem repVs_append : ∀ {xs ys : List V} {vs us : List Value}, repVs w xs vs → repVs w ys us → repVs w (xs ++ ys) (vs ++ us)
  | [], ys, vs, us, h, h' => by simp only [repVs] at h; subst h; simpa using h'
  | x :: xs, ys, _, us, ⟨v, vs', F, h1, h2, h3⟩, h' => by subst h1; simp only [List.cons_append, repVs]; exact ⟨v, _, F, rfl, h2, repVs_append h3 h'⟩
theorem repVs_ones : ∀ {xs : List T} {vs : List Value} {F : List Nat}, repCells w xs vs F → repVs w (xs.map V.one) vs
  | [], vs, F, h => by simp only [repCells] at h; simp [repVs, h.1]
  | x :: xs, vs, F, h => by
    simp only [repCells] at h
    obtain ⟨v, cs', F1, F2, h1, h2, h3, h4⟩ := h
    simp only [List.map_cons, repVs]
    exact ⟨v, cs', F1, h1, h3, repVs_ones h4⟩
end
end Go.Vm

namespace Go.Vm
open Go.RowKit

def cellsOf : AV → Option (List C)
  | .c x => some [x]
  | .agg xs => some xs
  | _ => none
def scalT : C → Option T
  | .t (.int k n) => some (.int k n)
  | .t (.bool b) => some (.bool b)
  | .t (.str s) => some (.str s)
  | _ => none
def zeroT : C → T
  | .t x => x
  | _ => .lst []

/-- The parts of a struct literal, laid over its zero cells. -/
def fillC (E : Nat → Option TI) (offs : List (Nat × Nat)) (vl : Operand → Option AV) : List (Nat × Operand) → List C → Option (List C)
  | [], zs => some zs
  | (i, x) :: r, zs => match offs[i]?, vl x with
    | some (off, ty), some v => match cellsOf v, E ty with
      | some cs, some ti => bif (Nat.beq cs.length ti.size && Nat.ble (off + cs.length) zs.length) then fillC E offs vl r (zs.take off ++ cs ++ zs.drop (off + cs.length)) else none
      | _, _ => none
    | _, _ => none
/-- The parts of a slice literal: rows 0, 1, .. in order, each of 'sz' cells. -/
def rowsC (sz : Nat) (vl : Operand → Option AV) : Nat → List (Nat × Operand) → Option (List (List C))
  | _, [] => some []
  | k, (i, x) :: r => bif Nat.beq i k then (match vl x with
      | some v => match cellsOf v with
        | some cs => bif Nat.beq cs.length sz then (match rowsC sz vl (k + 1) r with | some rs => some (cs :: rs) | none => none) else none
        | none => none
      | none => none) else none

def loadT (ti : TI) (cells : List T) (off : Nat) (K : AV → Prop) : Prop :=
  scase ti.agg (((cells.drop off).take ti.size).length = ti.size ∧ K (.agg (((cells.drop off).take ti.size).map C.t))) (need (cells[off]?) fun x => K (.c (.t x)))
def loadC (ti : TI) (cells : List C) (off : Nat) (K : AV → Prop) : Prop :=
  scase ti.agg (((cells.drop off).take ti.size).length = ti.size ∧ K (.agg ((cells.drop off).take ti.size))) (need (cells[off]?) fun x => K (.c x))

def callee (vl : Operand → Option AV) (O : List (Nat × Ob)) (x : Operand) : Option (FuncId × List V) :=
  match vl x with
  | some (.c (.fn f ids)) => match mapO (boxT O) ids with | some bs => some (f, bs.map V.one) | none => none
  | some (.c (.t (.fn f caps))) => some (f, caps.map V.one)
  | _ => none

/-- The operations that read memory or make new objects. -/
def opB (P : Program) (E : Nat → Option TI) (vl : Operand → Option AV) (op : Op) (σ : St) (K : AV → St → Prop) : Prop :=
  match op with
  | .alloc t => need (E t) fun ti => K (.ptr σ.next 0) (σ.new (.box ti.zero))
  | .box _ x => need (vl x) fun v => need (cellsOf v) fun cs => K (.ptr σ.next 0) (σ.new (.box cs))
  | .build t parts => need (E t) fun ti => match ti.k with
    | .st offs => need (fillC E offs vl parts.toList ti.zero) fun cs => K (.agg cs) σ
    | _ => False
  | .buildSlice t len parts => need (E t) fun ti => match ti.k with
    | .sl e => need (E e) fun te => need (rowsC te.size vl 0 parts.toList) fun rows => (rows.length = len ∧ len * te.size ≤ 16777216 ∧ len ≤ 16777216) ∧
      match mapO (mapO scalT) rows with
      | some trows => K (.c (.ref σ.next)) (σ.new (.row true true te.size trows))
      | none => K (.c (.ref σ.next)) (σ.new (.tmp te.size rows))
    | _ => False
  | .load t a => need (E t) fun ti => need (vl a) fun
    | .ptr id off => need (get σ.objs id) fun
      | .box cs => loadC ti cs off (K · σ)
      | _ => False
    | .iptr id sz i off => need (get σ.objs id) fun
      | .row _ _ sz' rows => sz = sz' ∧ ∃ cs, rows[i]? = some cs ∧ loadT ti cs off (K · σ)
      | .tmp sz' rows => sz = sz' ∧ ∃ cs, rows[i]? = some cs ∧ loadC ti cs off (K · σ)
      | _ => False
    | .sptr cells off => loadT ti cells off (K · σ)
    | .c (.t (.box cells)) => loadT ti cells 0 (K · σ)
    | _ => False
  | .makeSlice t l c => need (E t) fun ti => match ti.k with
    | .sl e => need (E e) fun te => need (vl l) fun
      | .c (.t (.int _ n)) => need (vl c) fun
        | .c (.t (.int _ n')) => ∃ m : Nat, (n = m ∧ n' = m) ∧ (m * te.bytes ≤ 140737488355328 ∧ m ≤ 140737488355328) ∧
            K (.c (.ref σ.next)) (σ.new (.row true true te.size (List.replicate m (te.zero.map zeroT))))
        | _ => False
      | _ => False
    | _ => False
  | .indexAddr t x i => need (E t) fun ti => match ti.k with
    | .sl e => need (E e) fun te => need (vl i) fun
      | .c (.t (.int _ n)) => need (vl x) fun
        | .c (.ref id) => need (get σ.objs id) fun
          | .row _ _ sz rows => te.size = sz ∧ ∃ j : Nat, n = j ∧ j < rows.length ∧ K (.iptr id sz j 0) σ
          | .tmp sz rows => te.size = sz ∧ ∃ j : Nat, n = j ∧ j < rows.length ∧ K (.iptr id sz j 0) σ
          | _ => False
        | .c (.t (.lst rows)) => ∃ (j : Nat) (cs : List T), n = j ∧ rows[j]? = some cs ∧ cs.length = te.size ∧ K (.sptr cs 0) σ
        | .c (.view id sz lo hi) => te.size = sz ∧ ∃ j : Nat, n = j ∧ j < hi - lo ∧ K (.iptr id sz (lo + j) 0) σ
        | _ => False
      | _ => False
    | _ => False
  | .slice t x lo hi none => need (E t) fun ti => match ti.k with
    | .sl e => need (E e) fun te => need (vl x) fun
      | .c (.t (.lst rows)) =>
        ∃ l h : Nat, (match lo with | some y => vl y = some (vint .i64 l) | none => l = 0) ∧ (match hi with | some y => vl y = some (vint .i64 h) | none => h = rows.length) ∧
          (l ≤ h ∧ h ≤ rows.length) ∧ (∀ r ∈ rows, r.length = te.size) ∧ K (.c (.t (.lst ((rows.take h).drop l)))) σ
      | .c (.ref id) => need (get σ.objs id) fun
        | .row _ _ sz rows => te.size = sz ∧
          ∃ l h : Nat, (match lo with | some y => vl y = some (vint .i64 l) | none => l = 0) ∧ (match hi with | some y => vl y = some (vint .i64 h) | none => h = rows.length) ∧
            (l ≤ h ∧ h ≤ rows.length) ∧ K (.c (.view id sz l h)) σ
        | _ => False
      | _ => False
    | _ => False
  | .slice t x none (some h) (some m) => need (E t) fun ti => match ti.k with
    | .sl e => need (E e) fun _ => need (vl x) fun v => (vl h = some (vint .i64 0) ∧ vl m = some (vint .i64 0)) ∧
      match v with
      | .c (.t (.lst _)) => K (.c .nil0) σ
      | .c .nil => K (.c .nil0) σ
      | .c (.ref id) => need (get σ.objs id) fun
        | .row .. => K (.c .nil0) σ
        | _ => False
      | _ => False
    | _ => False
  | .convert s d x => need (E s) fun ts => match ts.k with
    | .sl e => need (E e) fun te => need (E d) fun td => (te.k = .int .u8 ∧ td.k = .str) ∧ need (vl x) fun v => need (argV σ.objs v) fun
      | .one (.lst rows) => ∃ bs : List UInt8, rows = bs.map (fun b => [T.int .u8 (b.toNat : Int)]) ∧ K (.c (.t (.str ⟨bs.toArray⟩))) σ
      | _ => False
    | _ => opA E vl (.convert s d x) (fun v => K v σ)
  | .call { callee := .builtin .len, args, argTypes } => match args.toList, argTypes.toList with
    | [x], [t] => need (E t) fun ti => match ti.k with
      | .sl _ => need (vl x) fun
        | .c .nil => K (vint .i64 0) σ
        | .c .nil0 => K (vint .i64 0) σ
        | .c (.t (.lst rows)) => K (vint .i64 (rows.length : Nat)) σ
        | .c (.view _ _ lo hi) => K (vint .i64 ((hi - lo : Nat) : Int)) σ
        | .c (.ref id) => need (get σ.objs id) fun
          | .row _ _ _ rows => K (vint .i64 (rows.length : Nat)) σ
          | .tmp _ rows => K (vint .i64 (rows.length : Nat)) σ
          | _ => False
        | _ => False
      | _ => False
    | _, _ => False
  | .call { callee := .value f, args, argTypes := _ } => need (callee vl σ.objs f) fun fe => need (vals vl args.toList) fun avs => need (mapO (argV σ.objs) avs) fun as =>
      ∃ rs, FnAt P fe.1 (as ++ fe.2) rs ∧ K (impR σ rs).1 (impR σ rs).2
  | _ => False

/-- What a run of such an operation gives, over whatever objects 'O' that hold those of σ' (more may be laid already). -/
def GoesB (P : Program) (vl : Operand → Option AV) (o : Oper) (σ σ' : St) (av : AV) : Prop :=
  ∀ (w0 : Base) O G w a (Kc : Act → World → Prop) (Q : Exit → Act → World → Prop), (∀ id ob, get σ'.objs id = some ob → get O id = some ob) → Mem w0 O G w → OpsRep vl o.op O G w a →
    (∀ j, σ.next ≤ j → j < σ'.next → ¬ G.A j) →
    (∀ G' v w', Mem w0 O G' w' → Pres O G w O G' w' → av.rep O G' w' v → (∀ j, G'.A j → G.A j ∨ (σ.next ≤ j ∧ j < σ'.next)) → Kc (a.put o.dst v) w') → o.wp P a w Kc Q

theorem wp_value {P : Program} {o : Oper} {a : Act} {w w' : World} {v : Value} {Kc : Act → World → Prop} {Q : Exit → Act → World → Prop}
    (h : (execOp a.eval o).run P w = .ok (.value v) w') (hk : Kc (a.put o.dst v) w') : o.wp P a w Kc Q := by
  unfold Oper.wp
  rw [h]
  exact hk

section
variable {P : Program} {E : Nat → Option TI} {O : List (Nat × Ob)} {G : Gh} {w : World} {w0 : Base}

theorem run_loadVar {t : Nat} {ti : TI} (hE : TIok P t ti) (ad : Addr) (w : World) (cs : List Value) (hc : ∀ (j : Nat) u, cs[j]? = some u → w.cell? (ad.add j) = some u) :
    (ti.agg = true → cs.length = ti.size → (loadVar t ad).run P w = .ok (.agg cs.toArray) w) ∧ (ti.agg = false → ∀ u, cs[0]? = some u → (loadVar t ad).run P w = .ok u w) := by
  obtain ⟨i, z, hi, hs, _⟩ := hE.info
  obtain ⟨d, hd, hag, _⟩ := hE.desc
  have hisagg : (isAgg t).run P w = .ok ti.agg w := by
    unfold isAgg
    rw [Sem.run_bind, run_underlying hd, ← hag]
    cases d <;> rfl
  refine ⟨fun ha hl => ?_, fun ha u hu => ?_⟩
  · have hr := run_loadCells_list (P := P) w ad cs hc
    unfold loadVar
    rw [Sem.run_bind, hisagg, ha]
    rw [hl, ← hs] at hr
    simp [sizeOf, typeInfo, hi, hr]
  · have h0 := hc 0 u hu
    rw [addr_add0] at h0
    unfold loadVar
    rw [Sem.run_bind, hisagg, ha]
    simp [run_load, h0]

theorem drop_get {α : Type} {xs : List α} {off j : Nat} {u : α} (h : (xs.drop off)[j]? = some u) : xs[off + j]? = some u := by rw [← h, List.getElem?_drop]

theorem loadT_sound {t : Nat} {ti : TI} (hE : TIok P t ti) {cells : List T} {off : Nat} {K : AV → Prop} (h : loadT ti cells off K) :
    ∃ av, K av ∧ ∀ O G w (ad : Addr) cs F, repCells w cells cs F → Imm O G F → (∀ (j : Nat) u, cs[j]? = some u → w.cell? (ad.add j) = some u) →
      ∃ v, (loadVar t (ad.add off)).run P w = .ok v w ∧ av.rep O G w v := by
  unfold loadT at h
  rcases scase_out h with ⟨ha, hl, h⟩ | ⟨ha, h⟩
  · refine ⟨_, h, fun O G w ad cs F hr him hc => ?_⟩
    obtain ⟨F', h1, h2⟩ := repCells_drop off hr
    have h3 : repCs O G w (((cells.drop off).take ti.size).map C.t) ((cs.drop off).take ti.size) := by
      rw [List.map_take]
      exact repCs_take ti.size (repCs_t h1 (him.sub h2))
    have hlen : ((cs.drop off).take ti.size).length = ti.size := by
      have := repCs_length h3
      rw [List.length_map] at this
      rw [this]; exact hl
    have hrun := (run_loadVar hE (ad.add off) w ((cs.drop off).take ti.size) (fun j u hu => ?_)).1 ha hlen
    · exact ⟨_, hrun, by simp only [AV.rep]; exact ⟨_, rfl, h3⟩⟩
    · rw [add_of_add]
      have hj : j < ti.size := by have := (List.getElem?_eq_some_iff.1 hu).1; omega
      rw [List.getElem?_take_of_lt hj] at hu
      exact hc _ u (drop_get hu)
  · obtain ⟨x, e, h⟩ := need_some h
    refine ⟨_, h, fun O G w ad cs F hr him hc => ?_⟩
    obtain ⟨v, F1, h1, h2, h3⟩ := repCells_get hr off x e
    have hrun := (run_loadVar hE (ad.add off) w [v] (fun j u hu => ?_)).2 ha v rfl
    · exact ⟨v, hrun, F1, h2, him.sub h3⟩
    · have hj : j = 0 := by have := (List.getElem?_eq_some_iff.1 hu).1; simpa using this
      subst hj
      simp at hu
      subst hu
      rw [addr_add0]
      exact hc off _ h1

theorem loadC_sound {t : Nat} {ti : TI} (hE : TIok P t ti) {cells : List C} {off : Nat} {K : AV → Prop} (h : loadC ti cells off K) :
    ∃ av, K av ∧ ∀ O G w (ad : Addr) cs, repCs O G w cells cs → (∀ (j : Nat) u, cs[j]? = some u → w.cell? (ad.add j) = some u) →
      ∃ v, (loadVar t (ad.add off)).run P w = .ok v w ∧ av.rep O G w v := by
  unfold loadC at h
  rcases scase_out h with ⟨ha, hl, h⟩ | ⟨ha, h⟩
  · refine ⟨_, h, fun O G w ad cs hr hc => ?_⟩
    have h3 : repCs O G w ((cells.drop off).take ti.size) ((cs.drop off).take ti.size) := repCs_take ti.size (repCs_drop off hr)
    have hlen : ((cs.drop off).take ti.size).length = ti.size := by rw [repCs_length h3]; exact hl
    have hrun := (run_loadVar hE (ad.add off) w ((cs.drop off).take ti.size) (fun j u hu => ?_)).1 ha hlen
    · exact ⟨_, hrun, by simp only [AV.rep]; exact ⟨_, rfl, h3⟩⟩
    · rw [add_of_add]
      have hj : j < ti.size := by have := (List.getElem?_eq_some_iff.1 hu).1; omega
      rw [List.getElem?_take_of_lt hj] at hu
      exact hc _ u (drop_get hu)
  · obtain ⟨x, e, h⟩ := need_some h
    refine ⟨_, h, fun O G w ad cs hr hc => ?_⟩
    obtain ⟨v, h1, h2⟩ := repCs_get hr e
    have hrun := (run_loadVar hE (ad.add off) w [v] (fun j u hu => ?_)).2 ha v rfl
    · exact ⟨v, hrun, h2⟩
    · have hj : j = 0 := by have := (List.getElem?_eq_some_iff.1 hu).1; simpa using this
      subst hj
      simp at hu
      subst hu
      rw [addr_add0]
      exact hc off _ h1

theorem lit_add (g j : Nat) : ((⟨g, 0, none⟩ : Addr).add j) = ⟨g, j, none⟩ := by unfold Addr.add; split <;> simp_all
theorem box_cells {g : Nat} {vs : List Value} {e : TypeId} (h : w.heap[g]? = some (.cells (List.toArray vs) e (0, 0))) : ∀ (j : Nat) u, vs[j]? = some u → w.cell? ((⟨g, 0, none⟩ : Addr).add j) = some u := fun j u hu => by
  rw [lit_add]
  simp only [World.cell?, h]
  simpa using hu

theorem newBlock (w : World) (cs : Array Value) (e : TypeId) : Below w.heap.size w (w.alloc (.cells cs e)) ∧ (w.alloc (.cells cs e)).heap[w.heap.size]? = some (.cells cs e (0, 0)) :=
  ⟨(Below.refl _ _).alloc (Nat.le_refl _) _, Go.heap_alloc_new w _⟩

/-- A new box. -/
theorem newBox_goes {vl : Operand → Option AV} {o : Oper} {σ : St} {cs : List C} (_hw : σ.wf)
    (hrun : ∀ O G w a, OpsRep vl o.op O G w a → ∃ vs e, repCs O G w cs vs ∧ (execOp a.eval o).run P w = .ok (.value (.pointer (some ⟨w.heap.size, 0, none⟩))) (w.alloc (.cells (List.toArray vs) e))) :
    GoesB P vl o σ (σ.new (.box cs)) (.ptr σ.next 0) := by
  intro w0 O G w a Kc Q hsub hM hops hfr hK
  obtain ⟨vs, e, hvs, hr⟩ := hrun O G w a hops
  obtain ⟨hb, hn⟩ := newBlock w (List.toArray vs) e
  have hOn : get O σ.next = some (.box cs) := hsub _ _ (σ.new_get _)
  obtain ⟨hφ, hΦ, hA⟩ := Gh.add_new (G := G) σ.next (.pointer (some ⟨w.heap.size, 0, none⟩)) [w.heap.size]
  obtain ⟨hM', hp⟩ := hM.new1 (w' := w.alloc (.cells (List.toArray vs) e)) σ.next (.pointer (some ⟨w.heap.size, 0, none⟩)) [w.heap.size] (hfr _ (Nat.le_refl _) (by simp [St.new])) hb (by simp)
    (by simp only [List.mem_singleton, forall_eq]; exact ⟨Nat.le_refl _, _, _, hn⟩) (by simp [hd]) (fun ob hob p => by
      rw [hOn] at hob
      injection hob with hob
      subst hob
      exact ⟨w.heap.size, vs, e, hφ, hn, repCs_pres p cs vs hvs, hΦ, hA.2⟩)
  refine wp_value hr (hK _ _ _ hM' hp ?_ (fun j hj => ?_))
  · simp only [AV.rep]
    exact ⟨hA.1, ⟨w.heap.size, 0, none⟩, hφ, by rw [addr_add0]⟩
  · rcases Gh.add_A hj with h | h
    · exact .inl h
    · exact .inr (by subst h; simp [St.new])
end
end Go.Vm

namespace Go.Vm
open Go.RowKit

section
variable {P : Program} {E : Nat → Option TI} {vl : Operand → Option AV} {o : Oper} {σ : St} {av : AV}

theorem quiet_goes
    (hrun : ∀ (w0 : Base) O G w a, (∀ id ob, get σ.objs id = some ob → get O id = some ob) → Mem w0 O G w → OpsRep vl o.op O G w a → ∃ v, (execOp a.eval o).run P w = .ok (.value v) w ∧ av.rep O G w v) :
    GoesB P vl o σ σ av := by
  intro w0 O G w a Kc Q hsub hM hops _ hK
  obtain ⟨v, h1, h2⟩ := hrun w0 O G w a hsub hM hops
  exact wp_value h1 (hK G v w hM Pres.refl h2 (fun j hj => .inl hj))

theorem newRow_goes {ob : Ob} (hw : σ.wf)
    (hrun : ∀ (w0 : Base) O G w a, (∀ id ob, get σ.objs id = some ob → get O id = some ob) → Mem w0 O G w → OpsRep vl o.op O G w a →
      ∃ (arr : Array Value) (e : TypeId) (n c : Nat), (execOp a.eval o).run P w = .ok (.value (.slice (some ⟨w.heap.size, 0, none⟩) n c)) (w.alloc (.cells arr e)) ∧
        ∀ G' : Gh, G'.φ σ.next = .slice (some ⟨w.heap.size, 0, none⟩) n c → (G'.Φ σ.next = hd (.slice (some ⟨w.heap.size, 0, none⟩) n c) ∧ G'.h σ.next = hd (.slice (some ⟨w.heap.size, 0, none⟩) n c)) → Pres O G w O G' (w.alloc (.cells arr e)) → ob.rep O G' (w.alloc (.cells arr e)) σ.next) :
    GoesB P vl o σ (σ.new ob) (.c (.ref σ.next)) := by
  intro w0 O G w a Kc Q hsub hM hops hfr hK
  have hsub0 : ∀ id ob, get σ.objs id = some ob → get O id = some ob := fun id ob h => hsub id ob (by rw [(σ.ext_new _).objs id (hw id ob h)]; exact h)
  obtain ⟨arr, e, n, c, h1, h2⟩ := hrun w0 O G w a hsub0 hM hops
  obtain ⟨hb, hn⟩ := newBlock w arr e
  have hOn : get O σ.next = some ob := hsub _ _ (σ.new_get _)
  obtain ⟨hφ, hΦ, hA⟩ := Gh.add_new (G := G) σ.next (.slice (some ⟨w.heap.size, 0, none⟩) n c) (hd (.slice (some ⟨w.heap.size, 0, none⟩) n c))
  have hhd : ∀ b ∈ hd (.slice (some ⟨w.heap.size, 0, none⟩) n c), b = w.heap.size := by
    intro b hb
    cases c with
    | zero => simp [hd] at hb
    | succ c => simpa [hd] using hb
  obtain ⟨hM', hp⟩ := hM.new1 (w' := w.alloc (.cells arr e)) σ.next (.slice (some ⟨w.heap.size, 0, none⟩) n c) (hd (.slice (some ⟨w.heap.size, 0, none⟩) n c)) (hfr _ (Nat.le_refl _) (by simp [St.new])) hb
    (by cases c <;> simp [hd]) (fun b hbb => by rw [hhd b hbb]; exact ⟨Nat.le_refl _, _, _, hn⟩) (fun b hb => hb) (fun x hx p => by
      rw [hOn] at hx
      injection hx with hx
      subst hx
      exact h2 _ hφ ⟨hΦ, hA.2⟩ p)
  refine wp_value h1 (hK _ _ _ hM' hp ?_ (fun j hj => ?_))
  · simp only [AV.rep]
    exact ⟨hA.1, hφ.symm, one_slice _ _ _⟩
  · rcases Gh.add_A hj with h | h
    · exact .inl h
    · exact .inr (by subst h; simp [St.new])
end

/-! ### Literals -/
theorem splice_fold : ∀ (vs : List Value) (k off : Nat) (cells : Array Value), off + k + vs.length ≤ cells.size →
    ((vs.zipIdx k).foldl (fun cs (p : Value × Nat) => cs.setIfInBounds (off + p.2) p.1) cells).toList = cells.toList.take (off + k) ++ vs ++ cells.toList.drop (off + k + vs.length)
  | [], k, off, cells, h => by simp
  | v :: vs, k, off, cells, h => by
    simp only [List.length_cons] at h
    have hlt : off + k < cells.toList.length := by simp; omega
    have hs : (cells.setIfInBounds (off + k) v).toList = cells.toList.take (off + k) ++ v :: cells.toList.drop (off + k + 1) := by
      rw [Array.toList_setIfInBounds, List.set_eq_take_append_cons_drop, if_pos hlt]
    simp only [List.zipIdx_cons, List.foldl_cons]
    rw [splice_fold vs (k + 1) off _ (by simp; omega), hs]
    have h1 : (cells.toList.take (off + k)).length = off + k := by simp; omega
    have e1 : List.take (off + (k + 1)) (cells.toList.take (off + k) ++ v :: cells.toList.drop (off + k + 1)) = cells.toList.take (off + k) ++ [v] := by
      rw [List.take_append, h1, show off + (k + 1) - (off + k) = 1 by omega, List.take_of_length_le (by omega)]
      rfl
    have e2 : List.drop (off + (k + 1) + vs.length) (cells.toList.take (off + k) ++ v :: cells.toList.drop (off + k + 1)) = cells.toList.drop (off + k + (vs.length + 1)) := by
      rw [List.drop_append, h1, show off + (k + 1) + vs.length - (off + k) = vs.length + 1 by omega, List.drop_of_length_le (by omega), List.nil_append, List.drop_succ_cons, List.drop_drop]
      congr 1
      omega
    rw [e1, e2]
    simp

theorem fold_cells (cells : Array Value) (v : Value) (off : Nat) (h : off + v.cells.size ≤ cells.size) :
    (v.cells.zipIdx.foldl (fun cs (p : Value × Nat) => cs.setIfInBounds (off + p.2) p.1) cells).toList = cells.toList.take off ++ v.cells.toList ++ cells.toList.drop (off + v.cells.size) := by
  rw [← Array.foldl_toList, Array.toList_zipIdx]
  have := splice_fold v.cells.toList 0 off cells (by simpa using h)
  simpa using this

section
variable {P : Program} {E : Nat → Option TI} {O : List (Nat × Ob)} {G : Gh} {w : World} {w0 : Base}

theorem T.rep_one {x : T} {v : Value} {F : List Nat} (h : x.rep w v F) : one v := by
  cases x <;> simp only [T.rep] at h
  · rw [h.1]; exact ⟨rfl, rfl⟩
  · rw [h.1]; exact ⟨rfl, rfl⟩
  · rw [h.1]; exact ⟨rfl, rfl⟩
  · obtain ⟨A, c, rfl, _⟩ := h; exact ⟨rfl, rfl⟩
  · obtain ⟨ad, cs, F', rfl, _⟩ := h; exact ⟨rfl, rfl⟩
  · obtain ⟨vs, rfl, _⟩ := h; exact ⟨rfl, rfl⟩
  · obtain ⟨⟨rfl, h1, h2⟩, _⟩ := h; exact ⟨h1, h2⟩
theorem C.rep_one {x : C} {v : Value} (h : x.rep O G w v) : one v := by
  cases x with
  | nil => have h' : v = .slice none 0 0 := h; subst h'; exact ⟨rfl, rfl⟩
  | nil0 => obtain ⟨A, rfl⟩ := h; exact ⟨rfl, rfl⟩
  | t x => obtain ⟨F, h, _⟩ := h; exact T.rep_one h
  | anc x => obtain ⟨F, h, _⟩ := h; exact T.rep_one h
  | ref id => exact h.2.2
  | fn f ids => obtain ⟨h, _⟩ := h; rw [h]; exact ⟨rfl, rfl⟩
  | view id sz lo hi => obtain ⟨_, _, A, c, h, _⟩ := h; rw [h]; exact ⟨rfl, rfl⟩
theorem repCs_one : ∀ {xs : List C} {vs : List Value}, repCs O G w xs vs → ∀ v ∈ vs, v.oneCell' = true
  | [], vs, h, v, hv => by simp only [repCs] at h; subst h; simp at hv
  | x :: xs, _, ⟨u, vs', h1, h2, h3⟩, v, hv => by
    subst h1
    rcases List.mem_cons.1 hv with rfl | hv
    · exact (C.rep_one h2).1
    · exact repCs_one h3 v hv
theorem repCells_one : ∀ {xs : List T} {vs : List Value} {F : List Nat}, repCells w xs vs F → ∀ v ∈ vs, v.oneCell' = true
  | [], vs, F, h, v, hv => by simp only [repCells] at h; simp [h.1] at hv
  | x :: xs, _, F, h, v, hv => by
    simp only [repCells] at h
    obtain ⟨u, vs', F1, F2, h1, h4, h2, h3⟩ := h
    subst h1
    rcases List.mem_cons.1 hv with rfl | hv
    · exact (T.rep_one h2).1
    · exact repCells_one h3 v hv

theorem cellsOf_rep {v : AV} {cs : List C} {u : Value} (h : cellsOf v = some cs) (hr : v.rep O G w u) : ∃ vs, u.cells = List.toArray vs ∧ repCs O G w cs vs := by
  unfold cellsOf at h
  split at h
  · injection h with h
    subst h
    simp only [AV.rep] at hr
    exact ⟨[u], (C.rep_one hr).2, u, [], rfl, hr, rfl⟩
  · injection h with h
    subst h
    simp only [AV.rep] at hr
    obtain ⟨vs, rfl, h2⟩ := hr
    exact ⟨vs, rfl, h2⟩
  · cases h

/-- The parts of a struct literal: what 'fill' makes of them. -/
theorem fillC_rep (hE : TOk P E) {offs : List (Nat × Nat)} {vl : Operand → Option AV} {a : Act} (places : Nat → Option (Nat × Nat)) (hpl : ∀ (i off ty : Nat), offs[i]? = some (off, ty) → ∀ ti, E ty = some ti → places i = some (off, ti.size)) :
    ∀ {parts : List (Nat × Operand)} {zs cs : List C} {us : List Value}, fillC E offs vl parts zs = some cs → (∀ p ∈ parts, ∀ v, vl p.2 = some v → v.rep O G w (a.eval p.2)) → repCs O G w zs us →
      ∃ vs, Instr.fill places us.toArray (parts.map fun p => (p.1, a.eval p.2)) = some vs.toArray ∧ repCs O G w cs vs
  | [], zs, cs, us, h, _, hz => by
    simp only [fillC, Option.some.injEq] at h
    subst h
    exact ⟨us, rfl, hz⟩
  | (i, x) :: r, zs, cs, us, h, hr, hz => by
    simp only [fillC] at h
    split at h
    · rename_i off ty v e1 e2
      split at h
      · rename_i cs1 ti e3 e4
        cases hb : (Nat.beq cs1.length ti.size && Nat.ble (off + cs1.length) zs.length) with
        | false => simp [hb] at h
        | true =>
          simp only [hb, cond_true] at h
          simp only [Bool.and_eq_true] at hb
          have hb1 : cs1.length = ti.size := Nat.eq_of_beq_eq_true hb.1
          have hb2 : off + cs1.length ≤ zs.length := Nat.le_of_ble_eq_true hb.2
          obtain ⟨vs1, hv1, hv2⟩ := cellsOf_rep e3 (hr (i, x) (by simp) v e2)
          have hl := repCs_length hv2
          have hlz := repCs_length hz
          have hsz : (a.eval x).cells.size = vs1.length := by rw [hv1]; simp
          have hnew : repCs O G w (zs.take off ++ cs1 ++ zs.drop (off + cs1.length)) (us.take off ++ vs1 ++ us.drop (off + vs1.length)) := by
            rw [hl]
            exact repCs_append (repCs_append (repCs_take off hz) hv2) (repCs_drop _ hz)
          obtain ⟨vs, h1, h2⟩ := fillC_rep hE places hpl h (fun p hp => hr p (by simp [hp])) hnew
          refine ⟨vs, ?_, h2⟩
          rw [← h1]
          simp only [List.map_cons, Instr.fill, hpl i off ty e1 ti e4]
          rw [if_neg (by rw [hsz]; simp; omega)]
          congr 1
          have hf := fold_cells us.toArray (a.eval x) off (by rw [hsz]; simp; omega)
          rw [hv1] at hf ⊢
          apply Array.ext'
          rw [hf]
          simp
      · cases h
    · cases h

theorem rowsC_rep {sz : Nat} {vl : Operand → Option AV} {a : Act} : ∀ {parts : List (Nat × Operand)} {k : Nat} {rows : List (List C)}, rowsC sz vl k parts = some rows → (∀ p ∈ parts, ∀ v, vl p.2 = some v → v.rep O G w (a.eval p.2)) →
    ∃ css, repCss O G w rows css ∧ (∀ cs ∈ css, cs.length = sz) ∧ rows.length = parts.length ∧ css.length = parts.length ∧
      ∀ (cells : Array Value), (k + parts.length) * sz ≤ cells.size →
        ∃ cells', Instr.fill (fun i => some (i * sz, sz)) cells (parts.map fun p => (p.1, a.eval p.2)) = some cells' ∧ cells'.toList = cells.toList.take (k * sz) ++ css.flatten ++ cells.toList.drop ((k + parts.length) * sz)
  | [], k, rows, h, _ => by
    simp only [rowsC, Option.some.injEq] at h
    subst h
    exact ⟨[], rfl, by simp, rfl, rfl, fun cells _ => ⟨cells, rfl, by simp⟩⟩
  | (i, x) :: r, k, rows, h, hr => by
    simp only [rowsC] at h
    cases hik : Nat.beq i k with
    | false => simp [hik] at h
    | true =>
      have hik' : i = k := Nat.eq_of_beq_eq_true hik
      simp only [hik, cond_true] at h
      split at h
      · rename_i v ev
        split at h
        · rename_i cs1 e1
          cases hb : Nat.beq cs1.length sz with
          | false => simp [hb] at h
          | true =>
            have hb' : cs1.length = sz := Nat.eq_of_beq_eq_true hb
            simp only [hb, cond_true] at h
            split at h
            · rename_i rs e2
              injection h with h
              subst h
              obtain ⟨vs1, hv1, hv2⟩ := cellsOf_rep e1 (hr (i, x) (by simp) v ev)
              have hl : vs1.length = sz := by rw [repCs_length hv2, hb']
              obtain ⟨css, h1, h2, h3, h4, h5⟩ := rowsC_rep e2 (fun p hp => hr p (by simp [hp]))
              have hsz : (a.eval x).cells.size = sz := by rw [hv1]; simp [hl]
              refine ⟨vs1 :: css, ⟨vs1, css, rfl, hv2, h1⟩, ?_, by simp [h3], by simp [h4], fun cells hc => ?_⟩
              · intro cs hcs
                rcases List.mem_cons.1 hcs with rfl | hcs
                · exact hl
                · exact h2 cs hcs
              · simp only [List.length_cons] at hc
                have hk1 : k * sz + sz ≤ cells.size := by
                  have : (k + 1) * sz ≤ (k + (r.length + 1)) * sz := Nat.mul_le_mul_right _ (by omega)
                  rw [Nat.add_mul, Nat.one_mul] at this
                  omega
                have hf := fold_cells cells (a.eval x) (k * sz) (by rw [hsz]; exact hk1)
                generalize hg : (a.eval x).cells.zipIdx.foldl (fun cs (p : Value × Nat) => cs.setIfInBounds (k * sz + p.2) p.1) cells = c1 at hf
                have hc1 : c1.size = cells.size := by
                  rw [← Array.length_toList, hf, hsz, hv1]
                  simp [hl]
                  omega
                obtain ⟨cells', h6, h7⟩ := h5 c1 (by rw [hc1]; have e : k + 1 + r.length = k + (r.length + 1) := by omega
                                                     rw [e]; exact hc)
                refine ⟨cells', ?_, ?_⟩
                · simp only [List.map_cons, Instr.fill, hik']
                  rw [if_neg (by rw [hsz]; simp; omega)]
                  rw [← h6, ← hg]
                · rw [h7, hf, hsz, hv1]
                  simp only [List.flatten_cons]
                  have ht : (cells.toList.take (k * sz)).length = k * sz := by simp; omega
                  have e1 : List.take ((k + 1) * sz) (List.take (k * sz) cells.toList ++ vs1 ++ List.drop (k * sz + sz) cells.toList) = List.take (k * sz) cells.toList ++ vs1 := by
                    rw [List.take_append_of_le_length (by simp [hl, Nat.add_mul]; omega)]
                    rw [List.take_of_length_le (by simp [hl, Nat.add_mul]; omega)]
                  have e2 : List.drop ((k + 1 + r.length) * sz) (List.take (k * sz) cells.toList ++ vs1 ++ List.drop (k * sz + sz) cells.toList) = List.drop ((k + (r.length + 1)) * sz) cells.toList := by
                    have e3 : (k + 1 + r.length) * sz = k * sz + sz + r.length * sz := by simp [Nat.add_mul]
                    have e4 : (k + (r.length + 1)) * sz = k * sz + sz + r.length * sz := by simp [Nat.add_mul]; omega
                    rw [List.drop_append, e3, e4, List.drop_of_length_le (by simp [hl]; omega), List.nil_append, List.length_append, ht, hl, List.drop_drop]
                    congr 1
                    omega
                  simp only [List.length_cons]
                  rw [e1, e2]
                  simp
            · cases h
        · cases h
      · cases h
end
end Go.Vm

namespace Go.Vm
open Go.RowKit

section
variable {P : Program} {E : Nat → Option TI} {O : List (Nat × Ob)} {G : Gh} {w : World} {w0 : Base}

theorem scal_rep {x : C} {y : T} {v : Value} (h : scalT x = some y) (hr : x.rep O G w v) : y.rep w v [] := by
  unfold scalT at h
  split at h
  · injection h with h; subst h; obtain ⟨F, ⟨h1, h2⟩, _⟩ := hr; exact ⟨h1, rfl⟩
  · injection h with h; subst h; obtain ⟨F, ⟨h1, h2⟩, _⟩ := hr; exact ⟨h1, rfl⟩
  · injection h with h; subst h; obtain ⟨F, ⟨h1, h2⟩, _⟩ := hr; exact ⟨h1, rfl⟩
  · cases h
theorem scals_rep : ∀ {xs : List C} {ys : List T} {vs : List Value}, mapO scalT xs = some ys → repCs O G w xs vs → repCells w ys vs []
  | [], ys, vs, h, hr => by simp only [mapO, Option.some.injEq] at h; subst h; simp only [repCells]; exact ⟨hr, trivial⟩
  | x :: xs, ys, vs, h, ⟨v, vs', h1, h2, h3⟩ => by
    simp only [mapO] at h
    split at h
    · rename_i y ys' e1 e2
      injection h with h
      subst h h1
      simp only [repCells]
      exact ⟨v, vs', [], [], rfl, rfl, scal_rep e1 h2, scals_rep e2 h3⟩
    · cases h
theorem scalss_rep : ∀ {xs : List (List C)} {ys : List (List T)} {vs : List (List Value)}, mapO (mapO scalT) xs = some ys → repCss O G w xs vs → repRows w ys vs [] ∧ ys.length = xs.length
  | [], ys, vs, h, hr => by simp only [mapO, Option.some.injEq] at h; subst h; simp only [repRows]; exact ⟨⟨hr, trivial⟩, rfl⟩
  | x :: xs, ys, vs, h, ⟨v, vs', h1, h2, h3⟩ => by
    simp only [mapO] at h
    split at h
    · rename_i y ys' e1 e2
      injection h with h
      subst h h1
      have := scalss_rep e2 h3
      simp only [repRows]
      exact ⟨⟨v, vs', [], [], rfl, rfl, scals_rep e1 h2, this.1⟩, by simp [this.2]⟩
    · cases h

theorem zeros_rep : ∀ {xs : List C}, xs.all C.isPlain = true → repCells w (xs.map zeroT) (xs.map C.plain) []
  | [], _ => by simp [repCells]
  | x :: xs, h => by
    simp only [List.all_cons, Bool.and_eq_true] at h
    simp only [List.map_cons, repCells]
    refine ⟨_, _, [], [], rfl, rfl, ?_, zeros_rep h.2⟩
    have h1 := h.1
    cases x with
    | nil => simp only [zeroT, C.plain, T.rep]; exact ⟨none, 0, rfl, Nat.le_refl _, .inl ⟨trivial, trivial⟩⟩
    | t x => cases x <;> simp [C.isPlain] at h1 <;> exact ⟨rfl, rfl⟩
    | nil0 => simp [C.isPlain] at h1
    | anc x => simp [C.isPlain] at h1
    | ref id => simp [C.isPlain] at h1
    | fn f ids => simp [C.isPlain] at h1
    | view id sz lo hi => simp [C.isPlain] at h1
theorem repRows_replicate {r : List T} {cs : List Value} (h : repCells w r cs []) : ∀ n, repRows w (List.replicate n r) (List.replicate n cs) []
  | 0 => by simp [repRows]
  | n + 1 => by simp only [List.replicate_succ, repRows]; exact ⟨cs, _, [], [], rfl, rfl, h, repRows_replicate h n⟩

theorem made_flat (z : Array Value) : ∀ m, (madeCells z (m * z.size)).toList = (List.replicate m z.toList).flatten
  | 0 => by simp [madeCells]
  | m + 1 => by
    have ih := made_flat z m
    have e : madeCells z ((m + 1) * z.size) = madeCells z (m * z.size) ++ z := by
      apply Array.ext
      · simp [madeCells, Nat.add_mul]
      · intro k h1 h2
        simp only [madeCells, Array.getElem_map, Array.getElem_range, Array.getElem_append]
        split
        · rfl
        · rename_i hk
          simp [madeCells] at hk h1
          have hk2 : k - m * z.size < z.size := by rw [Nat.add_mul] at h1; omega
          have hm : k % z.size = k - m * z.size := by
            have : k = k - m * z.size + m * z.size := by omega
            rw [this, Nat.add_mul_mod_self_right, Nat.mod_eq_of_lt (by omega)]
            omega
          simp [hm, hk2]
    rw [e, List.replicate_succ', List.flatten_append, Array.toList_append, ih]
    simp

theorem run_indexAt {t e : Nat} {i : TypeInfo} (ht : P.underlying t = some (.slice e)) (hi : P.info? e = some i) (a : Addr) (n c : Nat) (k : IntKind) (j : Nat) (hj : j < n) (w : World) :
    (Instr.indexAt t (.slice (some a) n c) (.int k (j : Int))).run P w = .ok (.pointer (some (a.add (j * i.size)))) w := by
  simp [Instr.indexAt, asIntOf, run_underlying ht, sizeOf, typeInfo, hi, hj]

theorem repCss_length : ∀ {xs : List (List C)} {vs : List (List Value)}, repCss O G w xs vs → vs.length = xs.length
  | [], vs, h => by simp only [repCss] at h; simp [h]
  | x :: xs, _, ⟨v, vs', h1, h2, h3⟩ => by subst h1; simp [repCss_length h3]
theorem repCss_get : ∀ {rs : List (List C)} {css : List (List Value)}, repCss O G w rs css → ∀ (i : Nat) r, rs[i]? = some r → ∃ cs, css[i]? = some cs ∧ repCs O G w r cs
  | [], _, _, i, r, hi => by simp at hi
  | x :: xs, _, ⟨v, vs', h1, h2, h3⟩, i, r, hi => by
    subst h1
    cases i with
    | zero => simp at hi; subst hi; exact ⟨v, by simp, h2⟩
    | succ i =>
      obtain ⟨cs, h4, h5⟩ := repCss_get h3 i r (by simpa using hi)
      exact ⟨cs, by simpa using h4, h5⟩

theorem Mem.tmp (hM : Mem w0 O G w) {id : Nat} {sz : Nat} {rows : List (List C)} (ha : G.A id) (hg : get O id = some (.tmp sz rows)) :
    ∃ css, repCss O G w rows css ∧ (∀ cs ∈ css, cs.length = sz) ∧ RowWeak w (G.φ id) rows.length sz css := by
  obtain ⟨css, h1, h2, h3, _⟩ := hM.obs id _ ha hg
  exact ⟨css, h1, h2, h3.weak h2⟩

theorem repRows_take : ∀ {rs : List (List T)} {css : List (List Value)} {F : List Nat} (n : Nat), repRows w rs css F → ∃ F', repRows w (rs.take n) (css.take n) F' ∧ ∀ b ∈ F', b ∈ F
  | [], css, F, n, h => by simp only [repRows] at h; obtain ⟨rfl, rfl⟩ := h; exact ⟨[], by simp [repRows], by simp⟩
  | y :: ys, css, F, n, h => by
    cases n with
    | zero => exact ⟨[], by simp [repRows], by simp⟩
    | succ n =>
      simp only [repRows] at h
      obtain ⟨v, cs', F1, F2, rfl, rfl, h3, h4⟩ := h
      obtain ⟨F', h5, h6⟩ := repRows_take n h4
      refine ⟨F1 ++ F', by simp only [List.take_succ_cons, repRows]; exact ⟨v, _, F1, F', rfl, rfl, h3, h5⟩, fun b hb => ?_⟩
      rcases List.mem_append.1 hb with hb | hb
      · simp [hb]
      · simp [h6 b hb]
theorem repRows_drop : ∀ {rs : List (List T)} {css : List (List Value)} {F : List Nat} (n : Nat), repRows w rs css F → ∃ F', repRows w (rs.drop n) (css.drop n) F' ∧ ∀ b ∈ F', b ∈ F
  | [], css, F, n, h => by simp only [repRows] at h; obtain ⟨rfl, rfl⟩ := h; exact ⟨[], by simp [repRows], by simp⟩
  | y :: ys, css, F, n, h => by
    cases n with
    | zero => exact ⟨F, by simpa using h, fun b hb => hb⟩
    | succ n =>
      simp only [repRows] at h
      obtain ⟨v, cs', F1, F2, rfl, rfl, h3, h4⟩ := h
      obtain ⟨F', h5, h6⟩ := repRows_drop n h4
      exact ⟨F', by simpa using h5, fun b hb => by simp [h6 b hb]⟩

theorem run_slice {t e : Nat} {i : TypeInfo} (ht : P.underlying t = some (.slice e)) (hi : P.info? e = some i) (A : Option Addr) (n c l h : Nat) (hl : l ≤ h) (hh : h ≤ n) (hc : n ≤ c) (w : World)
    (lo hi' : Option Value) (hlo : lo = some (.int .i64 (l : Int)) ∨ (lo = none ∧ l = 0)) (hhi : hi' = some (.int .i64 (h : Int)) ∨ (hi' = none ∧ h = n)) :
    (Instr.sliceAt t (.slice A n c) lo hi' none).run P w = .ok (.slice (if c = l then A else A.map (·.add (l * i.size))) (h - l) (c - l)) w := by
  have h1 : h ≤ c := by omega
  have h2 : (l : Int) ≤ h := by omega
  have h3 : (h : Int) ≤ c := by omega
  rcases hlo with rfl | ⟨rfl, rfl⟩ <;> rcases hhi with rfl | ⟨rfl, rfl⟩ <;>
    simp [Instr.sliceAt, Instr.slice, Instr.sliceBounds, Instr.sliceBound, asIntOf, run_underlying ht, sizeOf, typeInfo, hi, h1, hl, eq_comm]
end
end Go.Vm
