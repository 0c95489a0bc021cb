/-
  The contract of a function over abstract data ('FnAt'); how its results become objects of the caller's; how a caller's values read as arguments.
  Conditions: none.
-/
import Derived.Test.YtpelgajmebgbaaaVmD
namespace Go.Vm
open Go.RowKit

structure St where
  env : List (Nat × AV)
  objs : List (Nat × Ob)
  next : Nat

def St.new (σ : St) (o : Ob) : St := ⟨σ.env, (σ.next, o) :: σ.objs, σ.next + 1⟩
def St.put (σ : St) (d : Option Nat) (v : AV) : St := match d with | some k => ⟨(k, v) :: σ.env, σ.objs, σ.next⟩ | none => σ
def St.wf (σ : St) : Prop := ∀ id o, get σ.objs id = some o → id < σ.next
structure St.ext (σ σ' : St) : Prop where
  env : σ'.env = σ.env
  next : σ.next ≤ σ'.next
  objs : ∀ id, id < σ.next → get σ'.objs id = get σ.objs id

theorem St.ext_refl (σ : St) : σ.ext σ := ⟨rfl, Nat.le_refl _, fun _ _ => rfl⟩
theorem St.ext_trans {a b c : St} (h : a.ext b) (k : b.ext c) : a.ext c :=
  ⟨k.env.trans h.env, Nat.le_trans h.next k.next, fun id hi => (k.objs id (Nat.lt_of_lt_of_le hi h.next)).trans (h.objs id hi)⟩
theorem St.ext_new (σ : St) (o : Ob) : σ.ext (σ.new o) := ⟨rfl, by simp [St.new], fun id hi => get_cons_other _ _ _ _ (by omega)⟩
theorem St.wf_new (σ : St) (h : σ.wf) (o : Ob) : (σ.new o).wf := by
  intro id x hx
  by_cases e : id = σ.next
  · subst e; simp [St.new]
  · have := h id x (by rw [← hx]; exact (get_cons_other _ _ _ _ e).symm)
    simp only [St.new]
    omega
theorem St.new_get (σ : St) (o : Ob) : get (σ.new o).objs σ.next = some o := get_cons_same _ _ _

def repVs (w : World) : List V → List Value → Prop
  | [], vs => vs = []
  | x :: xs, vs => ∃ v vs' F, vs = v :: vs' ∧ x.rep w v F ∧ repVs w xs vs'

/-- A result's cell: data without blocks; a row in new memory that may be appended to; a row in new memory of which only the cells are known. -/
inductive RC where
  | s (x : T)
  | l (sz : Nat) (rows : List (List T))
  | w (sz : Nat) (rows : List (List T))
inductive RV where
  | one (x : RC)
  | agg (xs : List RC)

def RC.rep (w : World) : RC → Value → List Nat → Prop
  | .s x, v, F => x.rep w v [] ∧ F = []
  | .l sz rows, v, F => ∃ css F', repRows w rows css F' ∧ (∀ cs ∈ css, cs.length = sz) ∧ RowOwn w v rows.length sz css.flatten ∧ F = hd v ++ F'
  | .w sz rows, v, F => ∃ css F', repRows w rows css F' ∧ (∀ cs ∈ css, cs.length = sz) ∧ RowWeak w v rows.length sz css ∧ F = hd v ++ F'
def repRCs (w : World) : List RC → List Value → List Nat → Prop
  | [], vs, F => vs = [] ∧ F = []
  | x :: xs, vs, F => ∃ v vs' F1 F2, vs = v :: vs' ∧ F = F1 ++ F2 ∧ x.rep w v F1 ∧ repRCs w xs vs' F2
def RV.rep (w : World) : RV → Value → List Nat → Prop
  | .one x, v, F => x.rep w v F
  | .agg xs, v, F => ∃ vs, v = .agg (List.toArray vs) ∧ repRCs w xs vs F
def repRVs (w : World) : List RV → List Value → List Nat → Prop
  | [], vs, F => vs = [] ∧ F = []
  | x :: xs, vs, F => ∃ v vs' F1 F2, vs = v :: vs' ∧ F = F1 ++ F2 ∧ x.rep w v F1 ∧ repRVs w xs vs' F2

def retOf : List Value → Value → Prop
  | [x], v => v = x
  | vs, v => v = .tuple vs.toArray

def Enter (P : Program) (f : FuncId) : Prop := ∃ fn c, P.funcs[f]? = some fn ∧ fn.body = some c ∧ (fn.name == "runtime.NumGoroutine") = false

/-- THE CONTRACT: called with values that read as 'args', whatever the memory, the function returns values that read as 'rs', in new memory that lies apart; nothing that was there has turned. -/
def FnAt (P : Program) (f : FuncId) (args : List V) (rs : List RV) : Prop :=
  Enter P f ∧ ∀ (w : World) (vs : List Value), repVs w args vs →
    Calls P f vs.toArray w fun e w' => ∃ us F v, e = .returned v ∧ retOf us v ∧ repRVs w' rs us F ∧ F.Nodup ∧
      (∀ b ∈ F, w.heap.size ≤ b ∧ ∃ arr e, w'.heap[b]? = some (.cells arr e (0, 0))) ∧ Below w.heap.size w w'

/-! ### Results taken in -/
def impC (σ : St) : RC → C × St
  | .s x => (.t x, σ)
  | .l sz rows => (.ref σ.next, σ.new (.row true true sz rows))
  | .w sz rows => (.ref σ.next, σ.new (.row true false sz rows))
def impCs (σ : St) : List RC → List C × St
  | [] => ([], σ)
  | x :: xs => ((impC σ x).1 :: (impCs (impC σ x).2 xs).1, (impCs (impC σ x).2 xs).2)
def impV (σ : St) : RV → AV × St
  | .one x => (.c (impC σ x).1, (impC σ x).2)
  | .agg xs => (.agg (impCs σ xs).1, (impCs σ xs).2)
def impVs (σ : St) : List RV → List AV × St
  | [] => ([], σ)
  | x :: xs => ((impV σ x).1 :: (impVs (impV σ x).2 xs).1, (impVs (impV σ x).2 xs).2)
def impR (σ : St) : List RV → AV × St
  | [x] => impV σ x
  | xs => (.tup (impVs σ xs).1, (impVs σ xs).2)

/-- What the ghost gets for results that are taken in: from σ to σ' the ids are laid for 'l'. -/
structure Imp (w : World) (σ σ' : St) (l : List (Value × List Nat)) (F : List Nat) (R : List (Nat × Ob) → Gh → Prop) : Prop where
  ext : σ.ext σ'
  wf : σ'.wf
  next : σ'.next = σ.next + l.length
  flat : (l.map (·.2)).flatten = F
  hds : ∀ p ∈ l, ∀ b ∈ hd p.1, b ∈ p.2
  have_ : ∀ k, k < l.length → ∃ o, get σ'.objs (σ.next + k) = some o
  obs : ∀ k (hk : k < l.length) o, get σ'.objs (σ.next + k) = some o → ∀ O G, G.φ (σ.next + k) = l[k].1 → (G.Φ (σ.next + k) = l[k].2 ∧ G.h (σ.next + k) = hd l[k].1) → o.rep O G w (σ.next + k)
  rep : ∀ O G, (∀ k (hk : k < l.length), G.A (σ.next + k) ∧ G.φ (σ.next + k) = l[k].1) → R O G

theorem Imp.cons {w : World} {σ a b : St} {l m : List (Value × List Nat)} {F1 F2 : List Nat} {R1 R2 : List (Nat × Ob) → Gh → Prop} (h : Imp w σ a l F1 R1) (k : Imp w a b m F2 R2) :
    Imp w σ b (l ++ m) (F1 ++ F2) (fun O G => R1 O G ∧ R2 O G) := by
  have hn := h.next
  refine ⟨St.ext_trans h.ext k.ext, k.wf, by rw [k.next, h.next, List.length_append]; omega, by rw [List.map_append, List.flatten_append, h.flat, k.flat], fun p hp => ?_, fun i hi => ?_, fun i hi o hg O G hφ hΦ => ?_, fun O G hG => ⟨h.rep O G fun i hi => ?_, k.rep O G fun i hi => ?_⟩⟩
  · rcases List.mem_append.1 hp with hp | hp
    · exact h.hds p hp
    · exact k.hds p hp
  · by_cases hlt : i < l.length
    · obtain ⟨o, ho⟩ := h.have_ i hlt
      exact ⟨o, by rw [k.ext.objs _ (by omega)]; exact ho⟩
    · rw [List.length_append] at hi
      obtain ⟨o, ho⟩ := k.have_ (i - l.length) (by omega)
      exact ⟨o, by rw [← ho, hn]; congr 1; omega⟩
  · by_cases hlt : i < l.length
    · rw [List.getElem_append_left hlt] at hφ hΦ
      exact h.obs i hlt o (by rw [← hg]; exact (k.ext.objs _ (by omega)).symm) O G hφ hΦ
    · have e : a.next + (i - l.length) = σ.next + i := by omega
      rw [List.getElem_append_right (by omega)] at hφ hΦ
      rw [List.length_append] at hi
      have := k.obs (i - l.length) (by omega) o (by rw [e]; exact hg) O G (by rw [e]; exact hφ) (by rw [e]; exact hΦ)
      rwa [e] at this
  · have := hG i (by rw [List.length_append]; omega)
    rw [List.getElem_append_left hi] at this
    exact this
  · have e : a.next + i = σ.next + (l.length + i) := by omega
    have := hG (l.length + i) (by rw [List.length_append]; omega)
    rw [List.getElem_append_right (by omega)] at this
    rw [e]
    simpa using this

theorem one_slice (A : Option Addr) (n c : Nat) : one (.slice A n c) := ⟨rfl, rfl⟩
theorem RowOwn.one {w : World} {v : Value} {n sz : Nat} {xs : List Value} (h : RowOwn w v n sz xs) : one v := by
  rcases h.2 with ⟨A, rfl, _⟩ | ⟨g, cap, cur, e, rfl, _⟩ <;> exact one_slice _ _ _
theorem RowWeak.one {w : World} {v : Value} {n sz : Nat} {xs : List (List Value)} (h : RowWeak w v n sz xs) : one v := by
  obtain ⟨A, c, rfl, _⟩ := h
  exact one_slice _ _ _

theorem impC_sound {w : World} {σ : St} (hw : σ.wf) : ∀ (x : RC) {v : Value} {F : List Nat}, x.rep w v F → ∃ l, Imp w σ (impC σ x).2 l F (fun O G => (impC σ x).1.rep O G w v)
  | .s x, v, F, ⟨h, hF⟩ => ⟨[], by
      subst hF
      exact ⟨σ.ext_refl, hw, rfl, rfl, by simp, by simp, by simp, fun O G _ => ⟨[], h, fun _ _ b hb => by simp at hb⟩⟩⟩
  | .l sz rows, v, F, ⟨css, F', h1, h2, h3, hF⟩ => ⟨[(v, F)], by
      refine ⟨σ.ext_new _, St.wf_new σ hw _, rfl, by simp, by simp +contextual [hF], fun k hk => ⟨_, by simp at hk; subst hk; exact σ.new_get _⟩, fun k hk o hg O G hφ hΦ => ?_, fun O G hG => ?_⟩
      · simp at hk
        subst hk
        have e : get (σ.new (.row true true sz rows)).objs σ.next = some o := hg
        rw [σ.new_get] at e
        injection e with e
        subst e
        have hφ' : G.φ σ.next = v := hφ
        have hΦ' : G.Φ σ.next = F := hΦ.1
        have hH' : G.h σ.next = hd v := hΦ.2
        show Ob.rep O G w σ.next _
        refine ⟨css, F', h1, h2, ?_, ?_⟩
        · simp only [if_true]; rw [hφ']; exact ⟨h3, hH'⟩
        · simp only [if_true]; rw [hH', hΦ', hF]
      · have := hG 0 (by simp)
        exact ⟨this.1, this.2.symm, h3.one⟩⟩
  | .w sz rows, v, F, ⟨css, F', h1, h2, h3, hF⟩ => ⟨[(v, F)], by
      refine ⟨σ.ext_new _, St.wf_new σ hw _, rfl, by simp, by simp +contextual [hF], fun k hk => ⟨_, by simp at hk; subst hk; exact σ.new_get _⟩, fun k hk o hg O G hφ hΦ => ?_, fun O G hG => ?_⟩
      · simp at hk
        subst hk
        have e : get (σ.new (.row true false sz rows)).objs σ.next = some o := hg
        rw [σ.new_get] at e
        injection e with e
        subst e
        have hφ' : G.φ σ.next = v := hφ
        have hΦ' : G.Φ σ.next = F := hΦ.1
        have hH' : G.h σ.next = hd v := hΦ.2
        show Ob.rep O G w σ.next _
        refine ⟨css, F', h1, h2, ?_, ?_⟩
        · simp only [Bool.false_eq_true, if_false]; rw [hφ']; exact ⟨h3, .inl hH'⟩
        · simp only [if_true]; rw [hH', hΦ', hF]
      · have := hG 0 (by simp)
        exact ⟨this.1, this.2.symm, h3.one⟩⟩

theorem impCs_sound {w : World} : ∀ (xs : List RC) {σ : St} {vs : List Value} {F : List Nat}, σ.wf → repRCs w xs vs F → ∃ l, Imp w σ (impCs σ xs).2 l F (fun O G => repCs O G w (impCs σ xs).1 vs)
  | [], σ, vs, F, hw, ⟨h1, h2⟩ => ⟨[], by subst h1 h2; exact ⟨σ.ext_refl, hw, rfl, rfl, by simp, by simp, by simp, fun O G _ => rfl⟩⟩
  | x :: xs, σ, vs, F, hw, ⟨v, vs', F1, F2, h1, h2, h3, h4⟩ => by
    subst h1 h2
    obtain ⟨l, hl⟩ := impC_sound hw x h3
    obtain ⟨m, hm⟩ := impCs_sound xs hl.wf h4
    have := hl.cons hm
    exact ⟨l ++ m, ⟨this.ext, this.wf, this.next, this.flat, this.hds, this.have_, this.obs, fun O G hG => ⟨v, vs', rfl, (this.rep O G hG).1, (this.rep O G hG).2⟩⟩⟩

theorem impV_sound {w : World} {σ : St} (hw : σ.wf) : ∀ (x : RV) {v : Value} {F : List Nat}, x.rep w v F → ∃ l, Imp w σ (impV σ x).2 l F (fun O G => (impV σ x).1.rep O G w v)
  | .one x, v, F, h => impC_sound hw x h
  | .agg xs, v, F, ⟨vs, h1, h2⟩ => by
    obtain ⟨l, this⟩ := impCs_sound xs hw h2
    exact ⟨l, ⟨this.ext, this.wf, this.next, this.flat, this.hds, this.have_, this.obs, fun O G hG => by
      simp only [impV, AV.rep]
      exact ⟨vs, h1, this.rep O G hG⟩⟩⟩
theorem impVs_sound {w : World} : ∀ (xs : List RV) {σ : St} {vs : List Value} {F : List Nat}, σ.wf → repRVs w xs vs F → ∃ l, Imp w σ (impVs σ xs).2 l F (fun O G => repAVs O G w (impVs σ xs).1 vs)
  | [], σ, vs, F, hw, ⟨h1, h2⟩ => ⟨[], by subst h1 h2; exact ⟨σ.ext_refl, hw, rfl, rfl, by simp, by simp, by simp, fun O G _ => by simp only [impVs, repAVs]⟩⟩
  | x :: xs, σ, vs, F, hw, ⟨v, vs', F1, F2, h1, h2, h3, h4⟩ => by
    subst h1 h2
    obtain ⟨l, hl⟩ := impV_sound hw x h3
    obtain ⟨m, hm⟩ := impVs_sound xs hl.wf h4
    have := hl.cons hm
    exact ⟨l ++ m, ⟨this.ext, this.wf, this.next, this.flat, this.hds, this.have_, this.obs, fun O G hG => by
      simp only [impVs, repAVs]
      exact ⟨v, vs', rfl, (this.rep O G hG).1, (this.rep O G hG).2⟩⟩⟩
theorem impR_sound {w : World} {xs : List RV} {σ : St} {vs : List Value} {v : Value} {F : List Nat} (hw : σ.wf) (h : repRVs w xs vs F) (hv : retOf vs v) :
    ∃ l, Imp w σ (impR σ xs).2 l F (fun O G => (impR σ xs).1.rep O G w v) := by
  match xs, h with
  | [x], ⟨u, vs', F1, F2, h1, h2, h3, h4⟩ =>
    obtain ⟨h5, h6⟩ := h4
    subst h5 h6 h1
    simp only [retOf] at hv
    subst hv
    have := impV_sound hw x h3
    simpa [h2, impR] using this
  | [], h =>
    obtain ⟨h1, h2⟩ := h
    subst h1 h2
    simp only [retOf] at hv
    subst hv
    obtain ⟨l, this⟩ := impVs_sound (w := w) [] hw ⟨rfl, rfl⟩
    exact ⟨l, ⟨this.ext, this.wf, this.next, this.flat, this.hds, this.have_, this.obs, fun O G hG => by
      simp only [impR, AV.rep]
      exact ⟨[], rfl, this.rep O G hG⟩⟩⟩
  | x :: y :: zs, h =>
    obtain ⟨l, this⟩ := impVs_sound (x :: y :: zs) hw h
    have e : v = .tuple vs.toArray := by
      obtain ⟨u, vs', F1, F2, h1, h2, h3, u', vs'', F3, F4, h4, h5, h6⟩ := h
      subst h1 h4
      exact hv
    exact ⟨l, ⟨this.ext, this.wf, this.next, this.flat, this.hds, this.have_, this.obs, fun O G hG => by
      simp only [impR, AV.rep]
      exact ⟨vs, e, this.rep O G hG⟩⟩⟩

/-! ### A caller's values as arguments -/
def mapO {α β : Type} (f : α → Option β) : List α → Option (List β)
  | [] => some []
  | x :: xs => match f x, mapO f xs with
    | some y, some ys => some (y :: ys)
    | _, _ => none
def T1 (O : List (Nat × Ob)) : C → Option T
  | .nil => some (.lst [])
  | .nil0 => some (.lst [])
  | .anc x => some x
  | .t x => some x
  | .ref id => match get O id with
    | some (.row _ _ _ rows) => some (.lst rows)
    | _ => none
  | .view id sz lo hi => match get O id with
    | some (.row _ _ sz' rows) => bif Nat.beq sz sz' then some (.lst ((rows.take hi).drop lo)) else none
    | _ => none
  | _ => none
def boxT (O : List (Nat × Ob)) (id : Nat) : Option T := match get O id with
  | some (.box cs) => match mapO (T1 O) cs with | some ts => some (.box ts) | none => none
  | _ => none
def T2 (O : List (Nat × Ob)) : C → Option T
  | .fn f ids => match mapO (boxT O) ids with | some bs => some (.fn f bs) | none => none
  | .ref id => match get O id with
    | some (.row _ _ _ rows) => some (.lst rows)
    | some (.tmp _ rows) => match mapO (mapO (T1 O)) rows with | some ts => some (.lst ts) | none => none
    | _ => none
  | x => T1 O x
def argV (O : List (Nat × Ob)) : AV → Option V
  | .c x => match T2 O x with | some y => some (.one y) | none => none
  | .agg xs => match mapO (T2 O) xs with | some ys => some (.agg ys) | none => none
  | .ptr id 0 => match boxT O id with | some b => some (.one b) | none => none
  | _ => none

section
variable {O : List (Nat × Ob)} {G : Gh} {w : World} {w0 : Base}

theorem repRows_cut : ∀ {xs : List (List T)} {vs : List (List Value)} {F : List Nat} (n : Nat), repRows w xs vs F → ∃ F1 F2, F = F1 ++ F2 ∧ repRows w (xs.take n) (vs.take n) F1 ∧ repRows w (xs.drop n) (vs.drop n) F2
  | [], vs, F, n, h => by simp only [repRows] at h; obtain ⟨rfl, rfl⟩ := h; exact ⟨[], [], rfl, by simp [repRows], by simp [repRows]⟩
  | x :: xs, vs, F, n, h => by
    cases n with
    | zero => exact ⟨[], F, rfl, by simp [repRows], by simpa using h⟩
    | succ n =>
      simp only [repRows] at h
      obtain ⟨v, cs', F1, F2, rfl, rfl, h3, h4⟩ := h
      obtain ⟨F3, F4, rfl, h5, h6⟩ := repRows_cut n h4
      exact ⟨F1 ++ F3, F4, by simp, by simp only [List.take_succ_cons, repRows]; exact ⟨v, _, F1, F3, rfl, rfl, h3, h5⟩, by simpa using h6⟩

/-- A part of a row. -/
theorem Mem.view (hM : Mem w0 O G w) {id sz lo hi : Nat} {own app : Bool} {rows : List (List T)} {v : Value} (hr : (C.view id sz lo hi).rep O G w v) (hg : get O id = some (.row own app sz rows)) :
    ∃ css F, repRows w ((rows.take hi).drop lo) css F ∧ (∀ cs ∈ css, cs.length = sz) ∧ RowWeak w v ((rows.take hi).drop lo).length sz css ∧ Imm O G F := by
  obtain ⟨h1, h2, A, c, h3, h0, h4⟩ := hr
  obtain ⟨css, F', h6, h7, h8, h9⟩ := hM.row h1 hg
  obtain ⟨F1, F2, rfl, r1, r2⟩ := repRows_cut hi h6
  obtain ⟨F3, F4, rfl, r3, r4⟩ := repRows_cut lo r1
  refine ⟨(css.take hi).drop lo, F4, r4, fun cs hcs => h7 cs (List.mem_of_mem_take (List.mem_of_mem_drop hcs)), ?_, h9.sub (fun b hb => by simp [hb])⟩
  by_cases hlt : lo < hi
  · obtain ⟨ad, n, c', h5, rfl, hn⟩ := h4 hlt
    obtain ⟨A', c2, h10, h11, h12⟩ := h8
    rw [h5] at h10
    injection h10 with e1 e2 e3
    subst e2 e3
    obtain ⟨ad', e4, hcell, hgrid⟩ := h12 (by omega)
    rw [e4] at e1
    injection e1 with e1
    subst e1
    have hlen : ((rows.take hi).drop lo).length = hi - lo := by rw [List.length_drop, List.length_take, Nat.min_eq_left hn]
    rw [hlen]
    refine ⟨_, c, h3, h0, fun _ => ⟨_, rfl, by rw [block_of_add]; exact hcell, fun i cs hi2 j u hu => ?_⟩⟩
    rw [List.getElem?_drop] at hi2
    have hlt2 : lo + i < hi := by have := (List.getElem?_eq_some_iff.1 hi2).1; simp at this; omega
    rw [List.getElem?_take_of_lt hlt2] at hi2
    rw [add_of_add, ← Nat.add_assoc, ← Nat.add_mul]
    exact hgrid (lo + i) cs hi2 j u hu
  · have hlen : ((rows.take hi).drop lo).length = 0 := by rw [List.length_drop, List.length_take]; have := Nat.min_le_left hi rows.length; omega
    rw [hlen]
    refine ⟨A, c, by rw [h3]; congr 1; omega, Nat.zero_le _, fun h => absurd h (by omega)⟩

theorem T1_sound (hM : Mem w0 O G w) {x : C} {y : T} {v : Value} (h : T1 O x = some y) (hr : x.rep O G w v) : ∃ F, y.rep w v F := by
  cases x with
  | nil =>
    simp only [T1, Option.some.injEq] at h
    subst h
    have hr' : v = .slice none 0 0 := hr
    subst hr'
    exact ⟨[], by simp only [T.rep]; exact ⟨none, 0, rfl, Nat.le_refl _, .inl ⟨trivial, trivial⟩⟩⟩
  | nil0 =>
    simp only [T1, Option.some.injEq] at h
    subst h
    obtain ⟨A, hr⟩ := hr
    subst hr
    exact ⟨[], by simp only [T.rep]; exact ⟨A, 0, rfl, Nat.le_refl _, .inl ⟨trivial, trivial⟩⟩⟩
  | t x =>
    simp only [T1, Option.some.injEq] at h
    subst h
    obtain ⟨F, h1, _⟩ := hr
    exact ⟨F, h1⟩
  | anc x =>
    simp only [T1, Option.some.injEq] at h
    subst h
    obtain ⟨F, h1, _⟩ := hr
    exact ⟨F, h1⟩
  | ref id =>
    simp only [T1] at h
    split at h
    · rename_i own app sz rows hg
      injection h with h
      subst h
      obtain ⟨h1, h2, _⟩ := hr
      subst h2
      obtain ⟨css, F', h3, h4, h5, _⟩ := hM.row h1 hg
      obtain ⟨F, h6, _⟩ := h5.rep h3 h4
      exact ⟨F, h6⟩
    · cases h
  | fn f ids => simp [T1] at h
  | view id sz lo hi =>
    simp only [T1] at h
    split at h
    · rename_i own app sz' rows hg
      cases hb : Nat.beq sz sz' with
      | false => rw [hb] at h; cases h
      | true =>
        rw [hb] at h
        injection h with h
        subst h
        have := Nat.eq_of_beq_eq_true hb
        subst this
        obtain ⟨css, F', h3, h4, h5, _⟩ := hM.view hr hg
        obtain ⟨F, h6, _⟩ := h5.rep h3 h4
        exact ⟨F, h6⟩
    · cases h
theorem T1s_sound (hM : Mem w0 O G w) : ∀ {xs : List C} {ys : List T} {vs : List Value}, mapO (T1 O) xs = some ys → repCs O G w xs vs → ∃ F, repCells w ys vs F
  | [], ys, vs, h, hr => by simp only [mapO, Option.some.injEq] at h; subst h; exact ⟨[], by simp only [repCells]; exact ⟨hr, trivial⟩⟩
  | x :: xs, ys, vs, h, ⟨v, vs', h1, h2, h3⟩ => by
    simp only [mapO] at h
    split at h
    · rename_i y ys' e1 e2
      injection h with h
      subst h h1
      obtain ⟨F1, h4⟩ := T1_sound hM e1 h2
      obtain ⟨F2, h5⟩ := T1s_sound hM e2 h3
      exact ⟨F1 ++ F2, by simp only [repCells]; exact ⟨v, vs', F1, F2, rfl, rfl, h4, h5⟩⟩
    · cases h
theorem T1ss_sound (hM : Mem w0 O G w) : ∀ {xs : List (List C)} {ys : List (List T)} {vs : List (List Value)}, mapO (mapO (T1 O)) xs = some ys → repCss O G w xs vs → ∃ F, repRows w ys vs F
  | [], ys, vs, h, hr => by simp only [mapO, Option.some.injEq] at h; subst h; exact ⟨[], by simp only [repRows]; exact ⟨hr, trivial⟩⟩
  | x :: xs, ys, vs, h, ⟨v, vs', h1, h2, h3⟩ => by
    simp only [mapO] at h
    split at h
    · rename_i y ys' e1 e2
      injection h with h
      subst h h1
      obtain ⟨F1, h4⟩ := T1s_sound hM e1 h2
      obtain ⟨F2, h5⟩ := T1ss_sound hM e2 h3
      exact ⟨F1 ++ F2, by simp only [repRows]; exact ⟨v, vs', F1, F2, rfl, rfl, h4, h5⟩⟩
    · cases h
theorem boxT_sound (hM : Mem w0 O G w) {id : Nat} {y : T} (h : boxT O id = some y) (ha : G.A id) : ∃ F, y.rep w (G.φ id) F := by
  simp only [boxT] at h
  split at h
  · rename_i cs hg
    split at h
    · rename_i ts e
      injection h with h
      subst h
      obtain ⟨g, vs, el, h1, h2, h3, h4⟩ := hM.obs id _ ha hg
      obtain ⟨F, h5⟩ := T1s_sound hM e h3
      refine ⟨g :: F, ?_⟩
      simp only [T.rep]
      refine ⟨⟨g, 0, none⟩, vs, F, h1, (Array.getElem?_eq_some_iff.1 h2).1, rfl, h5, fun j u hu => ?_⟩
      have hadd : ((⟨g, 0, none⟩ : Addr).add j) = ⟨g, j, none⟩ := by unfold Addr.add; split <;> simp_all
      rw [hadd]
      simp only [World.cell?, h2]
      simpa using hu
    · cases h
  · cases h
theorem boxTs_sound (hM : Mem w0 O G w) : ∀ {ids : List Nat} {ys : List T}, mapO (boxT O) ids = some ys → (∀ id ∈ ids, G.A id) → ∃ F, repCells w ys (ids.map G.φ) F
  | [], ys, h, _ => by simp only [mapO, Option.some.injEq] at h; subst h; exact ⟨[], by simp [repCells]⟩
  | x :: xs, ys, h, ha => by
    simp only [mapO] at h
    split at h
    · rename_i y ys' e1 e2
      injection h with h
      subst h
      obtain ⟨F1, h4⟩ := boxT_sound hM e1 (ha x (by simp))
      obtain ⟨F2, h5⟩ := boxTs_sound hM e2 (fun id hi => ha id (by simp [hi]))
      exact ⟨F1 ++ F2, by simp only [List.map_cons, repCells]; exact ⟨_, _, F1, F2, rfl, rfl, h4, h5⟩⟩
    · cases h
theorem T2_sound (hM : Mem w0 O G w) {x : C} {y : T} {v : Value} (h : T2 O x = some y) (hr : x.rep O G w v) : ∃ F, y.rep w v F := by
  cases x with
  | nil => exact T1_sound hM (x := .nil) h hr
  | nil0 => exact T1_sound hM (x := .nil0) h hr
  | t x => exact T1_sound hM (x := .t x) h hr
  | anc x => exact T1_sound hM (x := .anc x) h hr
  | view id sz lo hi => exact T1_sound hM (x := .view id sz lo hi) h hr
  | ref id =>
    simp only [T2] at h
    split at h
    · rename_i hg
      exact T1_sound hM (x := .ref id) (by simp only [T1, hg]; exact h) hr
    · rename_i sz rows hg
      split at h
      · rename_i ts e
        injection h with h
        subst h
        obtain ⟨h1, h2, _⟩ := hr
        subst h2
        obtain ⟨css, h3, h4, h5, h6⟩ := hM.obs id _ h1 hg
        obtain ⟨F, h7⟩ := T1ss_sound hM e h3
        have hl : rows.length = ts.length := by
          have a1 := repRows_length h7
          have a2 : ∀ {xs : List (List C)} {vs : List (List Value)}, repCss O G w xs vs → vs.length = xs.length := by
            intro xs
            induction xs with
            | nil => intro vs h; simp only [repCss] at h; simp [h]
            | cons a as ih => intro vs h; obtain ⟨v, vs', h1, h2, h3⟩ := h; subst h1; simp [ih h3]
          rw [← a1, a2 h3]
        rw [hl] at h5
        obtain ⟨F2, h8, _⟩ := (h5.weak h4).rep h7 h4
        exact ⟨F2, h8⟩
      · cases h
    · cases h
  | fn f ids =>
    simp only [T2] at h
    split at h
    · rename_i bs e
      injection h with h
      subst h
      obtain ⟨h1, h2⟩ := hr
      obtain ⟨F, h3⟩ := boxTs_sound hM e h2
      exact ⟨F, by simp only [T.rep]; exact ⟨_, h1, h3⟩⟩
    · cases h
theorem T2s_sound (hM : Mem w0 O G w) : ∀ {xs : List C} {ys : List T} {vs : List Value}, mapO (T2 O) xs = some ys → repCs O G w xs vs → ∃ F, repCells w ys vs F
  | [], ys, vs, h, hr => by simp only [mapO, Option.some.injEq] at h; subst h; exact ⟨[], by simp only [repCells]; exact ⟨hr, trivial⟩⟩
  | x :: xs, ys, vs, h, ⟨v, vs', h1, h2, h3⟩ => by
    simp only [mapO] at h
    split at h
    · rename_i y ys' e1 e2
      injection h with h
      subst h h1
      obtain ⟨F1, h4⟩ := T2_sound hM e1 h2
      obtain ⟨F2, h5⟩ := T2s_sound hM e2 h3
      exact ⟨F1 ++ F2, by simp only [repCells]; exact ⟨v, vs', F1, F2, rfl, rfl, h4, h5⟩⟩
    · cases h
theorem addr_add0 (a : Addr) : a.add 0 = a := by simp [Addr.add]
theorem argV_sound (hM : Mem w0 O G w) {x : AV} {y : V} {v : Value} (h : argV O x = some y) (hr : x.rep O G w v) : ∃ F, y.rep w v F := by
  unfold argV at h
  split at h
  · split at h
    · rename_i e
      injection h with h
      subst h
      simp only [AV.rep] at hr
      exact T2_sound hM e hr
    · cases h
  · split at h
    · rename_i e
      injection h with h
      subst h
      simp only [AV.rep] at hr
      obtain ⟨vs, h1, h2⟩ := hr
      obtain ⟨F, h3⟩ := T2s_sound hM e h2
      exact ⟨F, vs, h1, h3⟩
    · cases h
  · split at h
    · rename_i e
      injection h with h
      subst h
      simp only [AV.rep] at hr
      obtain ⟨h1, ad, h2, h3⟩ := hr
      rw [addr_add0, ← h2] at h3
      subst h3
      exact boxT_sound hM e h1
    · cases h
  · cases h
theorem argVs_sound (hM : Mem w0 O G w) : ∀ {xs : List AV} {ys : List V} {vs : List Value}, mapO (argV O) xs = some ys → repAVs O G w xs vs → repVs w ys vs
  | [], ys, vs, h, hr => by simp only [mapO, Option.some.injEq] at h; subst h; simpa only [repAVs, repVs] using hr
  | x :: xs, ys, vs, h, hr => by
    simp only [mapO] at h
    split at h
    · rename_i y ys' e1 e2
      injection h with h
      subst h
      simp only [repAVs] at hr
      obtain ⟨v, vs', h1, h2, h3⟩ := hr
      obtain ⟨F, h4⟩ := argV_sound hM e1 h2
      exact ⟨v, vs', F, h1, h4, argVs_sound hM e2 h3⟩
    · cases h
theorem repVs_append : ∀ {xs ys : List V} {vs us : List Value}, repVs w xs vs → repVs w ys us → repVs w (xs ++ ys) (vs ++ us)
  | [], ys, vs, us, h, h' => by simp only [repVs] at h; subst h; simpa using h'
  | x :: xs, ys, _, us, ⟨v, vs', F, h1, h2, h3⟩, h' => by subst h1; simp only [List.cons_append, repVs]; exact ⟨v, _, F, rfl, h2, repVs_append h3 h'⟩
theorem repVs_ones : ∀ {xs : List T} {vs : List Value} {F : List Nat}, repCells w xs vs F → repVs w (xs.map V.one) vs
  | [], vs, F, h => by simp only [repCells] at h; simp [repVs, h.1]
  | x :: xs, vs, F, h => by
    simp only [repCells] at h
    obtain ⟨v, cs', F1, F2, h1, h2, h3, h4⟩ := h
    simp only [List.map_cons, repVs]
    exact ⟨v, cs', F1, h1, h3, repVs_ones h4⟩
end
end Go.Vm
