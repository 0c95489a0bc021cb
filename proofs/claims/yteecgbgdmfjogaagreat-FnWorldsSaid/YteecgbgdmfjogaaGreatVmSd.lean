/-
  Soundness of the evaluator of code; a function's contract from its evaluation.
  How a table of types is held against a program; small rules for the use of the evaluator.
  A region whose order is drawn: in whatever order its operations are laid, it ends as in the order of the text.
  A region whose order is drawn: the facts of its operations, off the evaluation in the order of the text.
  A region whose order is drawn: in whatever order its operations are laid, it ends as in the order of the text. The contract of a function, with no condition left.
  A drawn region that calls functions with a pointer to a box: in whatever order its operations are laid, it ends as in the order of the text. The contract of a function, with no condition left.
  Conditions: the table of types fits the program ('TOk').
-/
import Derived.Test.YteecgbgdmfjogaaGreatVmN
import Derived.Orders
namespace Go.Vm
open Go.RowKit

theorem somes_inj : ∀ {ρ : List (Nat × Option Nat)} {i j k : Nat}, (somes ρ).Nodup → get ρ i = some (some k) → get ρ j = some (some k) → i = j := by
  have mem : ∀ {ρ : List (Nat × Option Nat)} {i k : Nat}, get ρ i = some (some k) → k ∈ somes ρ := by
    intro ρ
    induction ρ with
    | nil => intro i k h; cases h
    | cons p r ih =>
      intro i k h
      obtain ⟨q, o⟩ := p
      cases hb : Nat.beq q i with
      | true =>
        simp only [get, hb, cond_true] at h
        injection h with h
        subst h
        simp [somes]
      | false =>
        simp only [get, hb, cond_false] at h
        cases o <;> simp [somes, ih h]
  intro ρ
  induction ρ with
  | nil => intro i j k _ h _; cases h
  | cons p r ih =>
    intro i j k hn hi hj
    obtain ⟨q, o⟩ := p
    cases hbi : Nat.beq q i with
    | true =>
      have ei : q = i := Nat.eq_of_beq_eq_true hbi
      simp only [get, hbi, cond_true, Option.some.injEq] at hi
      subst hi
      simp only [somes] at hn
      obtain ⟨hk, _⟩ := List.nodup_cons.1 hn
      cases hbj : Nat.beq q j with
      | true => rw [← ei]; exact Nat.eq_of_beq_eq_true hbj
      | false =>
        simp only [get, hbj, cond_false] at hj
        exact absurd (mem hj) hk
    | false =>
      simp only [get, hbi, cond_false] at hi
      cases hbj : Nat.beq q j with
      | true =>
        simp only [get, hbj, cond_true, Option.some.injEq] at hj
        subst hj
        simp only [somes] at hn
        exact absurd (mem hi) (List.nodup_cons.1 hn).1
      | false =>
        simp only [get, hbj, cond_false] at hj
        refine ih ?_ hi hj
        cases o with
        | none => simpa [somes] using hn
        | some k' => simp only [somes] at hn; exact (List.nodup_cons.1 hn).2

theorem subEnv_get {ρ : List (Nat × Option Nat)} {old : List (Nat × AV)} : ∀ {new : List (Nat × AV)} {k : Nat} {v : AV}, subEnv ρ old new → get new k = some v → ∃ u u', get old k = some u ∧ renAV ρ v = some u' ∧ sub1 u u'
  | [], k, v, _, h => by cases h
  | (q, x) :: r, k, v, hs, h => by
    obtain ⟨u, e1, hs⟩ := need_some hs
    obtain ⟨u', e2, h1, h2⟩ := need_some hs
    cases hb : Nat.beq q k with
    | true =>
      have := Nat.eq_of_beq_eq_true hb
      subst this
      simp only [get, hb, cond_true, Option.some.injEq] at h
      subst h
      exact ⟨u, u', e1, e2, h1⟩
    | false => simp only [get, hb, cond_false] at h; exact subEnv_get h2 h
theorem subObjs_get {ρ : List (Nat × Option Nat)} {old : List (Nat × Ob)} {next : Nat} : ∀ {new : List (Nat × Ob)} {id : Nat} {o : Ob}, subObjs ρ old next new → get new id = some o →
    id < next ∧ ((∃ k u, get ρ id = some (some k) ∧ get old k = some u ∧ match o with
          | .box cs => ∃ us ds, renCs ρ cs = some ds ∧ u = .box us ∧ (us = ds ∨ subCs us ds)
          | .row own app sz rows => u = .row own app sz rows
          | .tmp .. => False
          | .vw _ => False) ∨ (get ρ id = some none ∧ ∃ sz, o = .row true true sz []))
  | [], id, o, _, h => by cases h
  | (q, x) :: r, id, o, hs, h => by
    rcases scase_out hs with ⟨h1, hs⟩ | ⟨_, hs⟩
    case inr => exact hs.elim
    obtain ⟨e, he, hs⟩ := need_some hs
    cases hb : Nat.beq q id with
    | true =>
      have := Nat.eq_of_beq_eq_true hb
      subst this
      simp only [get, hb, cond_true, Option.some.injEq] at h
      subst h
      have hlt : q < next := by
        have : q + 1 ≤ next := by simpa [Nat.blt] using h1
        omega
      refine ⟨hlt, ?_⟩
      split at hs
      · rename_i k
        obtain ⟨u, h4, h5, _⟩ := need_some hs
        refine .inl ⟨k, u, he, h4, ?_⟩
        unfold subOb at h5
        split at h5
        · obtain ⟨ds, h6, h7⟩ := need_some h5
          exact ⟨_, ds, h6, rfl, h7⟩
        · obtain ⟨⟨rfl, rfl, rfl⟩, rfl⟩ := h5
          rfl
        · exact h5.elim
      · split at hs
        · exact .inr ⟨he, _, rfl⟩
        · exact hs.elim
    | false =>
      simp only [get, hb, cond_false] at h
      split at hs
      · obtain ⟨u, _, _, h3⟩ := need_some hs
        exact subObjs_get h3 h
      · split at hs
        · exact subObjs_get hs h
        · exact hs.elim

theorem notFrm {ρ : List (Nat × Option Nat)} {v u u' : AV} (h : renAV ρ v = some u') (hs : sub1 u u') : ¬ isFrm u = true := by
  cases u with
  | frm ks vs =>
    have e : AV.frm ks vs = u' := hs
    subst e
    cases v with
    | c x => simp only [renAV] at h; split at h <;> cases h
    | agg x => simp only [renAV] at h; split at h <;> cases h
    | ptr x y => simp only [renAV] at h; split at h <;> cases h
    | pin x =>
      cases x with
      | c x => simp only [renAV] at h; split at h <;> cases h
      | agg x => simp only [renAV] at h; split at h <;> cases h
      | ptr x y => simp only [renAV] at h; split at h <;> cases h
      | _ => simp [renAV] at h
    | _ => simp [renAV] at h
  | _ => simp [isFrm]

def renGh (ρ : List (Nat × Option Nat)) (G : Gh) : Gh where
  A := fun id => ∃ e, get ρ id = some e ∧ ∀ k, e = some k → G.A k
  φ := fun id => match get ρ id with | some (some k) => G.φ k | _ => .slice none 0 0
  Φ := fun id => match get ρ id with | some (some k) => G.Φ k | _ => []
  h := fun id => match get ρ id with | some (some k) => G.h k | _ => []
  b := G.b
  pin := G.pin

theorem sub1_rep {O : List (Nat × Ob)} {G : Gh} {w : World} {u u' : AV} {v : Value} (h : sub1 u u') (hr : u.rep O G w v) : u'.rep O G w v := by
  unfold sub1 at h
  split at h
  · subst h
    simp only [AV.rep] at hr ⊢
    exact stripC_rep hr
  · rcases h with h | h
    · subst h; exact hr
    · simp only [AV.rep] at hr ⊢
      obtain ⟨vs, h1, h2⟩ := hr
      exact ⟨vs, h1, subCs_rep h h2⟩
  · subst h; exact hr

section
variable {P : Program} {E : Nat → Option TI} {nt : Nat} {w0 : Base}

theorem Rel.sub {σ σ' : St} {G : Gh} {a : Act} {w : World} (h : Rel w0 σ G nt a w) (hs : Sub σ σ') : ∃ G', Rel w0 σ' G' nt a w := by
  obtain ⟨ρ, hn, _, hall, henv, hobs⟩ := hs
  have hnd := nodupB_iff hn
  have live : ∀ id, Lv σ'.objs (renGh ρ G) id → (∃ k, get ρ id = some (some k) ∧ Lv σ.objs G k ∧ (renGh ρ G).h id = G.h k ∧ (renGh ρ G).Φ id = G.Φ k) ∨ (get ρ id = some none ∧ (renGh ρ G).h id = [] ∧ (renGh ρ G).Φ id = []) := by
    intro id ⟨⟨e, he, hA⟩, o, ho⟩
    rcases (subObjs_get hobs ho).2 with ⟨k, u, h1, h2, _⟩ | ⟨h1, _⟩
    · rw [he] at h1
      injection h1 with h1
      subst h1
      exact .inl ⟨k, he, ⟨hA k rfl, u, h2⟩, by simp [renGh, he], by simp [renGh, he]⟩
    · exact .inr ⟨h1, by simp [renGh, h1], by simp [renGh, h1]⟩
  have imm : ∀ {F}, Imm σ.objs G F → Imm σ'.objs (renGh ρ G) F := by
    intro F hF id hl b hb hbd
    rcases live id hl with ⟨k, _, hk, hφ, _⟩ | ⟨_, hφ, _⟩
    · rw [hφ] at hbd; exact hF k hk b hb hbd
    · rw [hφ] at hbd; simp at hbd
  have repC : ∀ {x y : C} {v : Value}, renC ρ x = some y → y.rep σ.objs G w v → x.rep σ'.objs (renGh ρ G) w v := by
    intro x y v hx hr
    cases x with
    | nil => simp only [renC, Option.some.injEq] at hx; subst hx; exact hr
    | nil0 => simp [renC] at hx
    | anc x =>
      simp only [renC, Option.some.injEq] at hx
      subst hx
      obtain ⟨F, h1, h2, h3⟩ := hr
      exact ⟨F, h1, imm h2, h3⟩
    | t x =>
      simp only [renC, Option.some.injEq] at hx
      subst hx
      obtain ⟨F, h1, h2⟩ := hr
      exact ⟨F, h1, imm h2⟩
    | ref id =>
      simp only [renC] at hx
      split at hx
      · rename_i k hk
        injection hx with hx
        subst hx
        obtain ⟨h1, h2, h3⟩ := hr
        exact ⟨⟨_, hk, fun k' e => by injection e with e; subst e; exact h1⟩, by simp only [renGh, hk]; exact h2, h3⟩
      · rename_i hk
        injection hx with hx
        subst hx
        have hv : v = .slice none 0 0 := hr
        subst hv
        exact ⟨⟨_, hk, fun k' e => by cases e⟩, by simp only [renGh, hk], one_slice _ _ _⟩
      · cases hx
    | fn f ids => simp [renC] at hx
    | view id sz lo hi => simp [renC] at hx
  have repCs' : ∀ {xs ys : List C} {vs : List Value}, renCs ρ xs = some ys → repCs σ.objs G w ys vs → repCs σ'.objs (renGh ρ G) w xs vs := by
    intro xs
    induction xs with
    | nil => intro ys vs hx hr; simp only [renCs, Option.some.injEq] at hx; subst hx; exact hr
    | cons x xs ih =>
      intro ys vs hx hr
      simp only [renCs] at hx
      split at hx
      · rename_i y ys' e1 e2
        injection hx with hx
        subst hx
        obtain ⟨v, vs', h1, h2, h3⟩ := hr
        exact ⟨v, vs', h1, repC e1 h2, ih e2 h3⟩
      · cases hx
  have repAV : ∀ (v u : AV) (val : Value), renAV ρ v = some u → u.rep σ.objs G w val → v.rep σ'.objs (renGh ρ G) w val := by
    intro v
    cases v with
    | c x =>
      intro u val h2 hu
      simp only [renAV] at h2
      split at h2
      · rename_i y e1
        injection h2 with h2
        subst h2
        simp only [AV.rep] at hu ⊢
        exact repC e1 hu
      · cases h2
    | agg xs =>
      intro u val h2 hu
      simp only [renAV] at h2
      split at h2
      · rename_i y e1
        injection h2 with h2
        subst h2
        simp only [AV.rep] at hu ⊢
        obtain ⟨vs, h3, h4⟩ := hu
        exact ⟨vs, h3, repCs' e1 h4⟩
      · cases h2
    | ptr id off =>
      intro u val h2 hu
      simp only [renAV] at h2
      split at h2
      · rename_i k' hk'
        injection h2 with h2
        subst h2
        simp only [AV.rep] at hu ⊢
        obtain ⟨h3, ad, h4, h5⟩ := hu
        exact ⟨⟨_, hk', fun q e => by injection e with e; subst e; exact h3⟩, ad, by simp only [renGh, hk']; exact h4, h5⟩
      · cases h2
    | junk => intro u val h2 hu; simp only [renAV, Option.some.injEq] at h2; subst h2; simp only [AV.rep] at hu ⊢; exact hu
    | nilq rows => intro u val h2 hu; simp [renAV] at h2
    | pin x =>
      intro u val h2 hu
      cases x with
      | c x =>
        simp only [renAV] at h2
        split at h2
        · rename_i y e1
          injection h2 with h2
          subst h2
          simp only [AV.rep] at hu ⊢
          exact ⟨repC e1 hu.1, hu.2⟩
        · cases h2
      | agg xs =>
        simp only [renAV] at h2
        split at h2
        · rename_i y e1
          injection h2 with h2
          subst h2
          simp only [AV.rep] at hu ⊢
          obtain ⟨⟨vs, h3, h4⟩, h5⟩ := hu
          exact ⟨⟨vs, h3, repCs' e1 h4⟩, h5⟩
        · cases h2
      | ptr id off =>
        simp only [renAV] at h2
        split at h2
        · rename_i k' hk'
          injection h2 with h2
          subst h2
          simp only [AV.rep] at hu ⊢
          obtain ⟨⟨h3, ad, h4, h5⟩, h6⟩ := hu
          exact ⟨⟨⟨_, hk', fun q e => by injection e with e; subst e; exact h3⟩, ad, by simp only [renGh, hk']; exact h4, h5⟩, h6⟩
        · cases h2
      | _ => simp [renAV] at h2
    | tup xs => intro u val h2; simp [renAV] at h2
    | frm ks vs => intro u val h2; simp [renAV] at h2
    | any => intro u val h2; simp [renAV] at h2
    | iptr id sz i off => intro u val h2; simp [renAV] at h2
    | sptr cells off => intro u val h2; simp [renAV] at h2
  refine ⟨renGh ρ G, ⟨⟨h.mem.below, h.mem.base, h.mem.fix, fun id o ha ho => ?_, fun id hl => ?_, fun i j hi hj hne => ?_, fun id hl b hb => ?_, fun id hl b hb => ?_⟩, fun k v hk => ?_, fun k v hk => ?_, h.size, fun j hj => ?_, fun id o ho => (subObjs_get hobs ho).1, h.defers⟩⟩
  · rcases (subObjs_get hobs ho).2 with ⟨k, u, h1, h2, h3⟩ | ⟨h1, sz, h2⟩
    · have hA : G.A k := by obtain ⟨e, he, hA⟩ := ha; rw [he] at h1; injection h1 with h1; subst h1; exact hA k rfl
      have hold := h.mem.obs k u hA h2
      have hφ : (renGh ρ G).φ id = G.φ k := by simp [renGh, h1]
      have hΦ : (renGh ρ G).Φ id = G.Φ k := by simp [renGh, h1]
      have hH : (renGh ρ G).h id = G.h k := by simp [renGh, h1]
      cases o with
      | box cs =>
        obtain ⟨us, ds, h4, rfl, h4'⟩ := h3
        obtain ⟨g, vs, e, h5, h6, h7, h8, h9⟩ := hold
        have h7' : repCs σ.objs G w ds vs := by
          rcases h4' with h | h
          · rw [← h]; exact h7
          · exact subCs_rep h h7
        exact ⟨g, vs, e, hφ.trans h5, h6, repCs' h4 h7', hΦ.trans h8, hH.trans h9⟩
      | row own app sz rows =>
        subst h3
        obtain ⟨css, F', h5, h6, h7, h8⟩ := hold
        refine ⟨css, F', h5, h6, by rw [hφ, hH]; exact h7, ?_⟩
        rw [hH, hΦ]
        cases own with
        | true => simpa only [if_true] using h8
        | false => simp only [Bool.false_eq_true, if_false] at h8 ⊢; exact ⟨h8.1, imm h8.2⟩
      | tmp sz rows => exact h3.elim
      | vw rows => exact h3.elim
    · subst h2
      have hφ : (renGh ρ G).φ id = .slice none 0 0 := by simp [renGh, h1]
      have hΦ : (renGh ρ G).Φ id = [] := by simp [renGh, h1]
      have hH : (renGh ρ G).h id = [] := by simp [renGh, h1]
      refine ⟨[], [], by simp [repRows], by simp, ?_, ?_⟩
      · simp only [if_true, hφ, hH]; exact ⟨⟨by simp, .inl ⟨none, rfl, rfl⟩⟩, rfl⟩
      · simp [hH, hΦ]
  · rcases live id hl with ⟨k, _, hk, _, hΦ⟩ | ⟨_, _, hΦ⟩
    · rw [hΦ]; exact h.mem.nodup k hk
    · rw [hΦ]; simp
  · rcases live i hi with ⟨k, e1, hk, _, hΦ⟩ | ⟨_, _, hΦ⟩ <;> rcases live j hj with ⟨k', e2, hk', _, hΦ'⟩ | ⟨_, _, hΦ'⟩ <;> rw [hΦ, hΦ']
    · exact h.mem.disj k k' hk hk' (fun e => hne (by subst e; exact somes_inj hnd e1 e2))
    · simp
    · simp
    · simp
  · rcases live id hl with ⟨k, _, hk, _, hΦ⟩ | ⟨_, _, hΦ⟩
    · rw [hΦ] at hb; exact h.mem.lo k hk b hb
    · rw [hΦ] at hb; simp at hb
  · rcases live id hl with ⟨k, _, hk, hφ, hΦ⟩ | ⟨_, hφ, hΦ⟩
    · rw [hφ] at hb; rw [hΦ]; exact h.mem.hds k hk b hb
    · rw [hφ] at hb; simp at hb
  · obtain ⟨u0, u, h1, h2, hs1⟩ := subEnv_get henv hk
    have hu := sub1_rep hs1 (h.env k u0 h1)
    clear h1 hs1
    revert h2 hu
    generalize a.tmps.getD k undef = val
    exact repAV v u val
  · obtain ⟨u, u', h1, h2, h3⟩ := subEnv_get henv hk
    exact .inl ((h.lt k u h1).resolve_right (notFrm h2 h3))
  · obtain ⟨e, he, _⟩ := hj
    have : ∀ {ρ : List (Nat × Option Nat)} {e}, get ρ j = some e → (ρ.all fun p => Nat.blt p.1 σ'.next) = true → j < σ'.next := by
      intro ρ
      induction ρ with
      | nil => intro e h; cases h
      | cons p r ih =>
        intro e h ha
        simp only [List.all_cons, Bool.and_eq_true] at ha
        obtain ⟨q, o⟩ := p
        cases hb : Nat.beq q j with
        | true =>
          have := Nat.eq_of_beq_eq_true hb
          subst this
          have : q + 1 ≤ σ'.next := by simpa [Nat.blt] using ha.1
          omega
        | false => simp only [get, hb, cond_false] at h; exact ih h ha.2
    exact this he hall

/-! ### Code -/
def toExit : Ex → Exit
  | .normal => .normal
  | .exit id => .exit id
  | .ret => .ret

def Post (w0 : Base) (nt : Nat) (K : Ex → St → Prop) : Exit → Act → World → Prop := fun e a w => ∃ ex σ G, e = toExit ex ∧ K ex σ ∧ Rel w0 σ G nt a w

theorem ev_sound (hE : TOk P E) (hdraw : ∀ (id : Nat) (ops : Array Oper) (K : St → Prop) (σ : St) (G : Gh) (a : Act) (w : World), drawOK ops = true → evOps P E nt false ops ops.toList K σ → Rel w0 σ G nt a w →
      (Code.region id ops true).wp P (Post w0 nt fun e σ' => e = .normal ∧ K σ') a w)
    (hdrawD : ∀ (id : Nat) (ops : Array Oper) (bid : Nat) (K : St → Prop) (σ : St) (G : Gh) (a : Act) (w : World), drawOK ops = true → (∃ c, get σ.objs bid = some c) → evOpsD P E nt ops bid ops.toList K σ → Rel w0 σ G nt a w →
      (Code.region id ops true).wp P (Post w0 nt fun e σ' => e = .normal ∧ K σ') a w) :
    ∀ (c : Code) {K : Ex → St → Prop} {σ : St} {G : Gh} {a : Act} {w : World}, ev P E nt c K σ → Rel w0 σ G nt a w → c.wp P (Post w0 nt K) a w := by
  intro c
  induction c with
  | skip => intro K σ G a w h hR; exact wp_skip ⟨.normal, σ, G, rfl, h, hR⟩
  | region id ops d =>
    intro K σ G a w h hR
    cases d with
    | false =>
      have h' : ncase (isNest ops.toList) (RegAt P nt (.region id ops false) (K .normal) σ) (evReg P E nt ops (K .normal) σ) := h
      unfold ncase at h'
      split at h'
      · refine wp_mono (h' w0 G a w hR) ?_
        rintro e a' w' ⟨rfl, σ', G', hk, hR'⟩
        exact ⟨.normal, σ', G', rfl, hk, hR'⟩
      · exact wp_region_list (evReg_sound hE h' hR (fun σ' G' a' w' hk hR' => ⟨.normal, σ', G', rfl, hk, hR'⟩))
    | true =>
      have h' : ncase (isHand ops) (RegAt P nt (.region id ops true) (K .normal) σ) ((drawOK ops = true ∧ evOps P E nt false ops ops.toList (K .normal) σ) ∨ (drawOK ops = true ∧ ∃ id, (∃ c, get σ.objs id = some c) ∧ evOpsD P E nt ops id ops.toList (K .normal) σ)) := h
      clear h
      unfold ncase at h'
      split at h'
      · refine wp_mono (h' w0 G a w hR) ?_
        rintro e a' w' ⟨rfl, σ', G', hk, hR'⟩
        exact ⟨.normal, σ', G', rfl, hk, hR'⟩
      rcases h' with ⟨h1, h2⟩ | ⟨h1, bid, h2, h3⟩
      · refine wp_mono (hdraw id ops _ σ G a w h1 h2 hR) ?_
        rintro e a' w' ⟨ex, σ', G', rfl, ⟨rfl, hk⟩, hR'⟩
        exact ⟨.normal, σ', G', rfl, hk, hR'⟩
      · refine wp_mono (hdrawD id ops bid _ σ G a w h1 h2 h3 hR) ?_
        rintro e a' w' ⟨ex, σ', G', rfl, ⟨rfl, hk⟩, hR'⟩
        exact ⟨.normal, σ', G', rfl, hk, hR'⟩
  | seq x y ihx ihy =>
    intro K σ G a w h hR
    refine wp_seq (wp_mono (ihx h hR) ?_)
    rintro e a' w' ⟨ex, σ', G', rfl, hk, hR'⟩
    cases ex with
    | normal => exact ihy hk hR'
    | exit id => exact ⟨.exit id, σ', G', rfl, hk, hR'⟩
    | ret => exact ⟨.ret, σ', G', rfl, hk, hR'⟩
  | cond c x y ihx ihy =>
    intro K σ G a w h hR
    have h' := need_some h; clear h
    obtain ⟨v, ev', h⟩ := h'
    split at h
    · rename_i b
      have hv : a.eval c = .bool b := by
        cases c with
        | tmp t =>
          simp only [val] at ev'
          split at ev'
          · rename_i u hu
            injection ev' with ev'
            have hs := strip_rep (hR.env t u hu)
            rw [ev'] at hs
            exact bool_of hs
          · cases ev'
        | const q => exact bool_of (constAV_rep (O := σ.objs) (G := G) (w := w) ev')
        | global g => cases ev'
        | func f => simp [val] at ev'
      rcases bcase_out h with ⟨rfl, hz⟩ | ⟨rfl, hz⟩
      · exact wp_cond_true hv (ihx hz hR)
      · exact wp_cond_false hv (ihy hz hR)
    · rename_i rows
      obtain ⟨b, hv, hb⟩ : ∃ b : Bool, a.eval c = .bool b ∧ (b = true → rows = []) := by
        cases c with
        | tmp t =>
          simp only [val] at ev'
          split at ev'
          · rename_i u hu
            injection ev' with ev'
            have hs := strip_rep (hR.env t u hu)
            rw [ev'] at hs
            simp only [AV.rep] at hs
            exact hs
          · cases ev'
        | const q =>
          have := constAV_rep (O := σ.objs) (G := G) (w := w) ev'
          simp only [AV.rep] at this
          exact this
        | global g => cases ev'
        | func f => simp [val] at ev'
      cases b with
      | true => exact wp_cond_true hv (ihx (h.1 (hb rfl)) hR)
      | false => exact wp_cond_false hv (ihy h.2 hR)
    · exact h.elim
  | block id c ih =>
    intro K σ G a w h hR
    refine wp_block (wp_mono (ih h hR) ?_)
    rintro e a' w' ⟨ex, σ', G', rfl, hk, hR'⟩
    cases ex with
    | normal => exact ⟨.normal, σ', G', rfl, hk, hR'⟩
    | ret => exact ⟨.ret, σ', G', rfl, hk, hR'⟩
    | exit k =>
      simp only [toExit, Exit.inBlock]
      cases hb : Nat.beq k id with
      | true =>
        have := Nat.eq_of_beq_eq_true hb
        subst this
        simp only [hb, cond_true] at hk
        rw [if_pos rfl]
        exact ⟨.normal, σ', G', rfl, hk, hR'⟩
      | false =>
        simp only [hb, cond_false] at hk
        rw [if_neg (fun e => by subst e; simp at hb)]
        exact ⟨.exit k, σ', G', rfl, hk, hR'⟩
  | loop c ih =>
    intro K σ G a w h hR
    obtain ⟨X, J, I, μ, x0, hj0, hs, hround⟩ := h
    obtain ⟨G0, hR0⟩ := hR.sub hs
    have key : ∀ n x G a w, J x → μ x < n → Rel w0 (I x) G nt a w → Code.rounds P c (Post w0 nt K) n a w := by
      intro n
      induction n with
      | zero => intro x G a w _ hlt; omega
      | succ n ihn =>
        intro x G a w hj hlt hR
        rw [rounds_succ]
        refine wp_mono (ih (hround x hj) hR) ?_
        rintro e a' w' ⟨ex, σ', G', rfl, hk, hR'⟩
        cases ex with
        | normal =>
          obtain ⟨x', ⟨hj', hlt'⟩, hs'⟩ := hk
          obtain ⟨G'', hR''⟩ := hR'.sub hs'
          exact ihn x' G'' a' w' hj' (by omega) hR''
        | exit id => exact ⟨.exit id, σ', G', rfl, hk, hR'⟩
        | ret => exact ⟨.ret, σ', G', rfl, hk, hR'⟩
    exact wp_loop_rounds _ (key (μ x0 + 1) x0 G0 a w hj0 (by omega) hR0)
  | exit id => intro K σ G a w h hR; exact wp_exit ⟨.exit id, σ, G, rfl, h, hR⟩
  | ret => intro K σ G a w h hR; exact wp_ret ⟨.ret, σ, G, rfl, h, hR⟩
  | _ => intro K σ G a w h hR; exact h.elim

/-! ### Results -/
/-- A cell that goes out: what it becomes, and the objects that go with it. -/
def outS : T → Bool
  | .lst [] => true
  | x => isScal x
theorem outS_none {w : World} {x : T} {v : Value} {F : List Nat} (h : outS x = true) (hr : x.rep w v F) : F = [] := by
  unfold outS at h
  split at h
  · obtain ⟨A, c, _, _, h1⟩ := hr
    rcases h1 with ⟨_, h1⟩ | ⟨_, _, _, _, h2, _⟩
    · exact h1
    · exact absurd rfl h2
  · exact scal_none h hr
def outC (O : List (Nat × Ob)) (x : C) (r : RC) (k : List Nat → Prop) : Prop :=
  match x, r with
  | .t x, .s y => (x = y ∧ outS x = true) ∧ k []
  | .nil, .l _ rows => rows = [] ∧ k []
  | .nil, .w _ rows => rows = [] ∧ k []
  | .ref id, .l sz rows => need (get O id) fun
    | .row true true sz' rows' => (sz' = sz ∧ rows' = rows) ∧ k [id]
    | _ => False
  | .ref id, .w sz rows => need (get O id) fun
    | .row true app sz' rows' => (sz' = sz ∧ rows' = rows) ∧ (app = true ∨ 0 < rows'.length) ∧ k [id]
    | _ => False
  | .view id vsz lo hi, .l sz rows => need (get O id) fun
    | .row true true sz' rows' => (sz' = sz ∧ vsz = sz' ∧ lo < hi ∧ hi ≤ rows'.length ∧ (rows'.take hi).drop lo = rows) ∧ k [id]
    | _ => False
  | .view id vsz lo hi, .w sz rows => need (get O id) fun
    | .row true _app sz' rows' => (sz' = sz ∧ vsz = sz' ∧ lo < hi ∧ hi ≤ rows'.length ∧ (rows'.take hi).drop lo = rows) ∧ k [id]
    | _ => False
  | .view _ _ lo hi, .s (.lst rows) => (hi ≤ lo ∧ rows = []) ∧ k []
  | _, _ => False
def outCs (O : List (Nat × Ob)) : List C → List RC → (List Nat → Prop) → Prop
  | [], [], k => k []
  | x :: xs, r :: rs, k => outC O x r fun i => outCs O xs rs fun j => k (i ++ j)
  | _, _, _ => False
def outV (O : List (Nat × Ob)) (v : AV) (r : RV) (k : List Nat → Prop) : Prop :=
  match v, r with
  | .c x, .one r => outC O x r k
  | .agg xs, .agg rs => outCs O xs rs k
  | _, _ => False
def outVs (O : List (Nat × Ob)) : List AV → List RV → (List Nat → Prop) → Prop
  | [], [], k => k []
  | x :: xs, r :: rs, k => outV O x r fun i => outVs O xs rs fun j => k (i ++ j)
  | _, _, _ => False

/-- The values of the result variables. -/
def resAV (E : Nat → Option TI) (σ : St) : List ResultVar → (List AV → Prop) → Prop
  | [], k => k []
  | .tmp t :: r, k => need (get σ.env t) fun v => resAV E σ r fun vs => k (v :: vs)
  | .cell t ty :: r, k => need (get σ.env t) fun
    | .ptr id off => need (get σ.objs id) fun
      | .box cs => need (E ty) fun ti => loadC ti cs off fun v => resAV E σ r fun vs => k (v :: vs)
      | _ => False
    | _ => False

/-- What the end of a body owes: results that read as 'rs', in memory that lies apart. -/
def retK (E : Nat → Option TI) (res : List ResultVar) (rs : List RV) : Ex → St → Prop
  | .exit _, _ => False
  | _, σ => resAV E σ res fun vs => outVs σ.objs vs rs fun ids => scase (nodupB ids) True False

def initAV : V → AV
  | .one x => .c (ancC x)
  | .agg xs => .agg (xs.map ancC)
def initEnv : Nat → List V → List (Nat × AV)
  | _, [] => []
  | n, x :: r => (n, initAV x) :: initEnv (n + 1) r

section
variable {σ : St} {G : Gh} {a : Act} {w : World}

def resGet (tmps : Array Value) : ResultVar → Sem Value
  | .tmp t => pure (tmps.getD t undef)
  | .cell c t => do loadVar t (← asAddr (tmps.getD c undef))

theorem resAV_sound (hE : TOk P E) (hR : Rel w0 σ G nt a w) : ∀ {res : List ResultVar} {k : List AV → Prop}, resAV E σ res k → ∃ avs vs, k avs ∧ repAVs σ.objs G w avs vs ∧
    (res.mapM (resGet a.tmps)).run P w = .ok vs w
  | [], k, h => ⟨[], [], h, by simp only [repAVs], by simp⟩
  | .tmp t :: r, k, h => by
    obtain ⟨v, ev', h⟩ := need_some h
    obtain ⟨avs, vs, h1, h2, h3⟩ := resAV_sound hE hR h
    refine ⟨v :: avs, a.tmps.getD t undef :: vs, h1, ?_, ?_⟩
    · simp only [repAVs]; exact ⟨_, _, rfl, hR.env t v ev', h2⟩
    · simp only [List.mapM_cons, resGet, Sem.run_bind, Sem.run_pure, Result.andThen_ok, h3]
  | .cell c t :: r, k, h => by
    have h' := need_some h; clear h
    obtain ⟨v, ev', h⟩ := h'
    split at h
    · rename_i id off
      have h' := need_some h; clear h
      obtain ⟨ob, eo, h⟩ := h'
      split at h
      · rename_i cs
        have h' := need_some h; clear h
        obtain ⟨ti, et, h⟩ := h'
        obtain ⟨av, hk, hl⟩ := loadC_sound (hE t ti et) h
        obtain ⟨avs, vs, h1, h2, h3⟩ := resAV_sound hE hR hk
        have hv := hR.env c _ ev'
        simp only [AV.rep] at hv
        obtain ⟨h4, ad, h5, h6⟩ := hv
        obtain ⟨g, us, el, h7, h8, h9, h10⟩ := hR.mem.obs id _ h4 eo
        rw [h5] at h7
        injection h7 with h7
        injection h7 with h7
        subst h7
        obtain ⟨u, h11, h12⟩ := hl σ.objs G w _ us h9 (box_cells h8)
        refine ⟨av :: avs, u :: vs, h1, ?_, ?_⟩
        · simp only [repAVs]; exact ⟨_, _, rfl, h12, h2⟩
        · have e1 : (asAddr (a.tmps.getD c undef)).run P w = .ok ((⟨g, 0, none⟩ : Addr).add off) w := by rw [h6]; rfl
          simp only [List.mapM_cons, resGet, Sem.run_bind, Sem.run_pure, Result.andThen_ok, e1, h11, h3]
      · exact h.elim
    · exact h.elim

theorem flat_cut {css : List (List Value)} {sz : Nat} (h : ∀ cs ∈ css, cs.length = sz) (lo hi : Nat) (h1 : lo ≤ hi) (h2 : hi ≤ css.length) : (css.flatten.drop (lo * sz)).take ((hi - lo) * sz) = ((css.take hi).drop lo).flatten := by
  have key : ∀ (n : Nat) (css : List (List Value)), (∀ cs ∈ css, cs.length = sz) → n ≤ css.length → css.flatten.drop (n * sz) = (css.drop n).flatten ∧ css.flatten.take (n * sz) = (css.take n).flatten := by
    intro n css h hn
    have e : css.flatten = (css.take n).flatten ++ (css.drop n).flatten := by rw [← List.flatten_append, List.take_append_drop]
    have hl : (css.take n).flatten.length = n * sz := by
      rw [flat_length (fun cs hcs => h cs (List.mem_of_mem_take hcs)), List.length_take, Nat.min_eq_left hn]
    rw [e, ← hl]
    exact ⟨List.drop_left, List.take_left⟩
  rw [(key lo css h (by omega)).1, (key (hi - lo) (css.drop lo) (fun cs hcs => h cs (List.mem_of_mem_drop hcs)) (by rw [List.length_drop]; omega)).2, List.drop_take]
theorem outC_sound (hM : Mem w0 σ.objs G w) {x : C} {r : RC} {k : List Nat → Prop} (h : outC σ.objs x r k) {v : Value} (hr : x.rep σ.objs G w v) :
    ∃ ids F, k ids ∧ r.rep w v F ∧ (∀ i ∈ ids, Lv σ.objs G i) ∧ (F.Nodup ∧ ∀ b ∈ F, ∃ i, i ∈ ids ∧ b ∈ G.Φ i) := by
  unfold outC at h
  split at h
  · obtain ⟨⟨rfl, hs⟩, h⟩ := h
    obtain ⟨F, h1, _⟩ := hr
    have := outS_none hs h1
    subst this
    exact ⟨[], [], h, ⟨h1, rfl⟩, by simp, by simp⟩
  · obtain ⟨rfl, h⟩ := h
    have hv : v = .slice none 0 0 := hr
    subst hv
    exact ⟨[], [], h, ⟨[], [], by simp [repRows], by simp, ⟨by simp, .inl ⟨none, rfl, rfl⟩⟩, by simp [hd]⟩, by simp, by simp⟩
  · obtain ⟨rfl, h⟩ := h
    have hv : v = .slice none 0 0 := hr
    subst hv
    exact ⟨[], [], h, ⟨[], [], by simp [repRows], by simp, ⟨none, 0, rfl, Nat.le_refl _, fun h => absurd h (by simp)⟩, by simp [hd]⟩, by simp, by simp⟩
  · rename_i id sz rows
    have h' := need_some h; clear h
    obtain ⟨ob, eo, h⟩ := h'
    split at h
    · obtain ⟨⟨rfl, rfl⟩, h⟩ := h
      obtain ⟨h1, h2, _⟩ := hr
      subst h2
      have hlv : Lv σ.objs G id := ⟨h1, _, eo⟩
      obtain ⟨css, F', h3, h4, h5, h6⟩ := hM.obs id _ h1 eo
      simp only [if_true] at h5 h6
      rw [h5.2] at h6
      exact ⟨[id], _, h, ⟨css, F', h3, h4, h5.1, rfl⟩, by simpa using hlv, by rw [← h6]; exact hM.nodup id hlv, fun b hb => ⟨id, by simp, by rw [h6]; exact hb⟩⟩
    · exact h.elim
  · rename_i id sz rows
    have h' := need_some h; clear h
    obtain ⟨ob, eo, h⟩ := h'
    split at h
    · rename_i app sz' rows'
      obtain ⟨⟨rfl, rfl⟩, happ, h⟩ := h
      obtain ⟨h1, h2, _⟩ := hr
      subst h2
      have hlv : Lv σ.objs G id := ⟨h1, _, eo⟩
      obtain ⟨css, F', h3, h4, h5, h6⟩ := hM.obs id _ h1 eo
      simp only [if_true] at h6
      have hw : RowWeak w (G.φ id) rows'.length sz' css ∧ G.h id = hd (G.φ id) := by
        cases app with
        | true => simp only [if_true] at h5; exact ⟨h5.1.weak h4, h5.2⟩
        | false =>
          simp only [Bool.false_eq_true, if_false] at h5
          refine ⟨h5.1, ?_⟩
          rcases h5.2 with h | ⟨hr0, _⟩
          · exact h
          · rcases happ with h | h
            · cases h
            · rw [hr0] at h; simp at h
      rw [hw.2] at h6
      replace hw := hw.1
      exact ⟨[id], _, h, ⟨css, F', h3, h4, hw, rfl⟩, by simpa using hlv, by rw [← h6]; exact hM.nodup id hlv, fun b hb => ⟨id, by simp, by rw [h6]; exact hb⟩⟩
    · exact h.elim
  · rename_i id vsz lo hi sz rows
    have h' := need_some h; clear h
    obtain ⟨ob, eo, h⟩ := h'
    split at h
    · rename_i sz' rows'
      obtain ⟨⟨rfl, rfl, hlt, hle, rfl⟩, h⟩ := h
      obtain ⟨h1, h2, A, c, h3, h0, h4⟩ := hr
      obtain ⟨ad, n, c', h5, rfl, _, hcc⟩ := h4 hlt
      have hlv : Lv σ.objs G id := ⟨h1, _, eo⟩
      obtain ⟨css, F', h6, h7, h8, h9⟩ := hM.obs id _ h1 eo
      simp only [if_true] at h8 h9
      obtain ⟨hO, hHd⟩ := h8
      rw [hHd] at h9
      have hfl := hO.1
      rcases hO.2 with ⟨B, _, hn0⟩ | ⟨g, o, cap, cur, e, hφ, hp, hh, hnc, hcm, hcs, htk⟩
      · omega
      rw [h5] at hφ
      injection hφ with e1 e2 e3
      injection e1 with e1
      subst e1 e2 e3
      obtain ⟨F1, F2, rfl, r1, r2⟩ := repRows_cut hi h6
      obtain ⟨F3, F4, rfl, r3, r4⟩ := repRows_cut lo r1
      have hlen : ((rows'.take hi).drop lo).length = hi - lo := by rw [List.length_drop, List.length_take, Nat.min_eq_left hle]
      have h7' : ∀ cs ∈ (css.take hi).drop lo, cs.length = vsz := fun cs hcs => h7 cs (List.mem_of_mem_take (List.mem_of_mem_drop hcs))
      have hcl : css.length = rows'.length := repRows_length h6
      have hlen2 : ((css.take hi).drop lo).length = hi - lo := by rw [List.length_drop, List.length_take, Nat.min_eq_left (by omega)]
      have hhd : hd v = hd (G.φ id) := by
        rw [h3, h5]
        cases c with
        | zero => omega
        | succ c =>
          cases c' with
          | zero => omega
          | succ c' => simp [hd, block_of_add]
      have hnd := hM.nodup id hlv
      rw [h9, List.nodup_append] at hnd
      obtain ⟨n1, n2, n3⟩ := hnd
      have hmul : c' * vsz = lo * vsz + c * vsz := by rw [← hcc, Nat.add_comm, Nat.add_mul]
      have hcut : (css.flatten.drop (lo * vsz)).take ((hi - lo) * vsz) = ((css.take hi).drop lo).flatten := flat_cut h7 lo hi (Nat.le_of_lt hlt) (by omega)
      refine ⟨[id], _, h, ⟨(css.take hi).drop lo, F4, r4, h7', ⟨by rw [flat_length h7', hlen, hlen2], .inr ⟨g, o + lo * vsz, c, cur, e, by rw [h3, hlen, Addr.add_lit], by omega, hh, by omega, by omega, by omega, ?_⟩⟩, rfl⟩, by simpa using hlv, ?_, fun b hb => ⟨id, by simp, ?_⟩⟩
      · rw [hlen, ← hcut, ← htk, List.drop_take, List.drop_drop, List.take_take, Nat.min_eq_left]
        rw [← Nat.sub_mul]
        exact Nat.mul_le_mul_right _ (by omega)
      · rw [hhd]
        refine List.nodup_append.2 ⟨n1, ?_, fun x hx y hy => n3 x hx y (by simp [hy])⟩
        rw [List.append_assoc, List.nodup_append] at n2
        exact (List.nodup_append.1 n2.2.1).1
      · rw [hhd] at hb
        rw [h9]
        rcases List.mem_append.1 hb with hb | hb <;> simp [hb]
    · exact h.elim
  · rename_i id vsz lo hi sz rows
    have h' := need_some h; clear h
    obtain ⟨ob, eo, h⟩ := h'
    split at h
    · rename_i app sz' rows'
      obtain ⟨⟨rfl, rfl, hlt, hle, rfl⟩, h⟩ := h
      obtain ⟨h1, h2, A, c, h3, h0, h4⟩ := hr
      obtain ⟨ad, n, c', h5, rfl, _⟩ := h4 hlt
      have hlv : Lv σ.objs G id := ⟨h1, _, eo⟩
      obtain ⟨css, F', h6, h7, h8, h9⟩ := hM.obs id _ h1 eo
      simp only [if_true] at h9
      have hw : RowWeak w (G.φ id) rows'.length vsz css := by
        cases app with
        | true => simp only [if_true] at h8; exact h8.1.weak h7
        | false => simp only [Bool.false_eq_true, if_false] at h8; exact h8.1
      have hHd : G.h id = hd (G.φ id) := by
        cases app with
        | true => simp only [if_true] at h8; exact h8.2
        | false =>
          simp only [Bool.false_eq_true, if_false] at h8
          rcases h8.2 with h | ⟨hr0, _⟩
          · exact h
          · rw [hr0] at hle; simp at hle; omega
      rw [hHd] at h9
      obtain ⟨A', c2, h10, h11, h12⟩ := hw
      rw [h5] at h10
      injection h10 with e1 e2 e3
      subst e2 e3
      obtain ⟨ad', e4, hcell, hgrid⟩ := h12 (by omega)
      rw [e4] at e1
      injection e1 with e1
      subst e1
      obtain ⟨F1, F2, rfl, r1, r2⟩ := repRows_cut hi h6
      obtain ⟨F3, F4, rfl, r3, r4⟩ := repRows_cut lo r1
      have hlen : ((rows'.take hi).drop lo).length = hi - lo := by rw [List.length_drop, List.length_take, Nat.min_eq_left hle]
      have hhd : hd v = hd (G.φ id) := by
        rw [h3, h5]
        cases c with
        | zero => omega
        | succ c =>
          cases c' with
          | zero => omega
          | succ c' => simp [hd, block_of_add]
      have hnd := hM.nodup id hlv
      rw [h9, List.nodup_append] at hnd
      obtain ⟨n1, n2, n3⟩ := hnd
      refine ⟨[id], _, h, ⟨(css.take hi).drop lo, F4, r4, fun cs hcs => h7 cs (List.mem_of_mem_take (List.mem_of_mem_drop hcs)), ⟨_, c, by rw [hlen]; exact h3, by rw [hlen]; exact h0, fun _ => ⟨_, rfl, by rw [block_of_add]; exact hcell, fun i cs hi2 j u hu => ?_⟩⟩, rfl⟩, by simpa using hlv, ?_, fun b hb => ⟨id, by simp, ?_⟩⟩
      · rw [List.getElem?_drop] at hi2
        have hlt2 : lo + i < hi := by have := (List.getElem?_eq_some_iff.1 hi2).1; simp at this; omega
        rw [List.getElem?_take_of_lt hlt2] at hi2
        rw [add_of_add, ← Nat.add_assoc, ← Nat.add_mul]
        exact hgrid (lo + i) cs hi2 j u hu
      · rw [hhd]
        refine List.nodup_append.2 ⟨n1, ?_, fun x hx y hy => n3 x hx y (by simp [hy])⟩
        rw [List.append_assoc, List.nodup_append] at n2
        exact (List.nodup_append.1 n2.2.1).1
      · rw [hhd] at hb
        rw [h9]
        rcases List.mem_append.1 hb with hb | hb <;> simp [hb]
    · exact h.elim
  · obtain ⟨⟨hle, rfl⟩, h⟩ := h
    obtain ⟨_, _, A, c, h3, h0, _⟩ := hr
    have e0 : ∀ {lo hi : Nat}, hi ≤ lo → hi - lo = 0 := fun h => by omega
    refine ⟨[], [], h, ⟨?_, rfl⟩, by simp, by simp⟩
    simp only [T.rep]
    refine ⟨A, c, by rw [h3, e0 hle]; rfl, Nat.zero_le _, ?_⟩
    simp
  · exact h.elim

theorem outs_join {ids1 ids2 : List Nat} {F1 F2 : List Nat} (hM : Mem w0 σ.objs G w) (h1 : (∀ i ∈ ids1, Lv σ.objs G i) ∧ (F1.Nodup ∧ ∀ b ∈ F1, ∃ i, i ∈ ids1 ∧ b ∈ G.Φ i)) (h2 : (∀ i ∈ ids2, Lv σ.objs G i) ∧ ((ids2.Nodup → F2.Nodup) ∧ ∀ b ∈ F2, ∃ i, i ∈ ids2 ∧ b ∈ G.Φ i)) :
    (∀ i ∈ ids1 ++ ids2, Lv σ.objs G i) ∧ (((ids1 ++ ids2).Nodup → (F1 ++ F2).Nodup) ∧ ∀ b ∈ F1 ++ F2, ∃ i, i ∈ ids1 ++ ids2 ∧ b ∈ G.Φ i) := by
  refine ⟨fun i hi => ?_, fun hn => ?_, fun b hb => ?_⟩
  · rcases List.mem_append.1 hi with hi | hi
    · exact h1.1 i hi
    · exact h2.1 i hi
  · obtain ⟨n1, n2, n3⟩ := List.nodup_append.1 hn
    refine List.nodup_append.2 ⟨h1.2.1, h2.2.1 n2, fun x hx y hy e => ?_⟩
    subst e
    obtain ⟨i, hi, hxi⟩ := h1.2.2 x hx
    obtain ⟨j, hj, hxj⟩ := h2.2.2 x hy
    exact hM.disj i j (h1.1 i hi) (h2.1 j hj) (n3 i hi j hj) x hxi hxj
  · rcases List.mem_append.1 hb with hb | hb
    · obtain ⟨i, hi, hbi⟩ := h1.2.2 b hb; exact ⟨i, by simp [hi], hbi⟩
    · obtain ⟨i, hi, hbi⟩ := h2.2.2 b hb; exact ⟨i, by simp [hi], hbi⟩
theorem outs_join' {ids1 ids2 : List Nat} {F1 F2 : List Nat} (hM : Mem w0 σ.objs G w) (h1 : (∀ i ∈ ids1, Lv σ.objs G i) ∧ ((ids1.Nodup → F1.Nodup) ∧ ∀ b ∈ F1, ∃ i, i ∈ ids1 ∧ b ∈ G.Φ i)) (h2 : (∀ i ∈ ids2, Lv σ.objs G i) ∧ ((ids2.Nodup → F2.Nodup) ∧ ∀ b ∈ F2, ∃ i, i ∈ ids2 ∧ b ∈ G.Φ i)) :
    (∀ i ∈ ids1 ++ ids2, Lv σ.objs G i) ∧ (((ids1 ++ ids2).Nodup → (F1 ++ F2).Nodup) ∧ ∀ b ∈ F1 ++ F2, ∃ i, i ∈ ids1 ++ ids2 ∧ b ∈ G.Φ i) := by
  refine ⟨fun i hi => ?_, fun hn => ?_, fun b hb => ?_⟩
  · rcases List.mem_append.1 hi with hi | hi
    · exact h1.1 i hi
    · exact h2.1 i hi
  · obtain ⟨n1, n2, n3⟩ := List.nodup_append.1 hn
    exact ((outs_join hM ⟨h1.1, h1.2.1 n1, h1.2.2⟩ h2).2.1 hn)
  · rcases List.mem_append.1 hb with hb | hb
    · obtain ⟨i, hi, hbi⟩ := h1.2.2 b hb; exact ⟨i, by simp [hi], hbi⟩
    · obtain ⟨i, hi, hbi⟩ := h2.2.2 b hb; exact ⟨i, by simp [hi], hbi⟩

theorem outCs_sound (hM : Mem w0 σ.objs G w) : ∀ {xs : List C} {rs : List RC} {k : List Nat → Prop} {vs : List Value}, outCs σ.objs xs rs k → repCs σ.objs G w xs vs →
    ∃ ids F, k ids ∧ repRCs w rs vs F ∧ (∀ i ∈ ids, Lv σ.objs G i) ∧ ((ids.Nodup → F.Nodup) ∧ ∀ b ∈ F, ∃ i, i ∈ ids ∧ b ∈ G.Φ i)
  | [], [], k, vs, h, hr => ⟨[], [], h, ⟨hr, rfl⟩, by simp, by simp⟩
  | x :: xs, r :: rs, k, vs, h, ⟨v, vs', h1, h2, h3⟩ => by
    subst h1
    obtain ⟨i1, F1, a1, a2, a3, a4⟩ := outC_sound hM h h2
    obtain ⟨i2, F2, b1, b2, b3, b4⟩ := outCs_sound hM a1 h3
    exact ⟨i1 ++ i2, F1 ++ F2, b1, ⟨v, vs', F1, F2, rfl, rfl, a2, b2⟩, outs_join hM ⟨a3, a4⟩ ⟨b3, b4⟩⟩
  | [], r :: rs, k, vs, h, _ => h.elim
  | x :: xs, [], k, vs, h, _ => h.elim
theorem outV_sound (hM : Mem w0 σ.objs G w) {x : AV} {r : RV} {k : List Nat → Prop} {v : Value} (h : outV σ.objs x r k) (hr : x.rep σ.objs G w v) :
    ∃ ids F, k ids ∧ r.rep w v F ∧ (∀ i ∈ ids, Lv σ.objs G i) ∧ ((ids.Nodup → F.Nodup) ∧ ∀ b ∈ F, ∃ i, i ∈ ids ∧ b ∈ G.Φ i) := by
  unfold outV at h
  split at h
  · simp only [AV.rep] at hr
    obtain ⟨i1, F1, a1, a2, a3, a4⟩ := outC_sound hM h hr
    exact ⟨i1, F1, a1, a2, a3, fun _ => a4.1, a4.2⟩
  · simp only [AV.rep] at hr
    obtain ⟨vs, h1, h2⟩ := hr
    obtain ⟨i1, F1, a1, a2, a3, a4⟩ := outCs_sound hM h h2
    exact ⟨i1, F1, a1, ⟨vs, h1, a2⟩, a3, a4⟩
  · exact h.elim
theorem outVs_sound (hM : Mem w0 σ.objs G w) : ∀ {xs : List AV} {rs : List RV} {k : List Nat → Prop} {vs : List Value}, outVs σ.objs xs rs k → repAVs σ.objs G w xs vs →
    ∃ ids F, k ids ∧ repRVs w rs vs F ∧ (∀ i ∈ ids, Lv σ.objs G i) ∧ ((ids.Nodup → F.Nodup) ∧ ∀ b ∈ F, ∃ i, i ∈ ids ∧ b ∈ G.Φ i)
  | [], [], k, vs, h, hr => ⟨[], [], h, ⟨by simpa only [repAVs] using hr, rfl⟩, by simp, by simp⟩
  | x :: xs, r :: rs, k, vs, h, hr => by
    simp only [repAVs] at hr
    obtain ⟨v, vs', h1, h2, h3⟩ := hr
    subst h1
    obtain ⟨i1, F1, a1, a2, a3, a4⟩ := outV_sound hM h h2
    obtain ⟨i2, F2, b1, b2, b3, b4⟩ := outVs_sound hM a1 h3
    exact ⟨i1 ++ i2, F1 ++ F2, b1, ⟨v, vs', F1, F2, rfl, rfl, a2, b2⟩, outs_join' hM ⟨a3, a4⟩ ⟨b3, b4⟩⟩
  | [], r :: rs, k, vs, h, _ => h.elim
  | x :: xs, [], k, vs, h, _ => h.elim

theorem run_results {fn : Func} {tmps : Array Value} {vs : List Value} (h : (fn.results.toList.mapM (resGet tmps)).run P w = .ok vs w) :
    ∃ v, retOf vs v ∧ (results fn tmps).run P w = .ok v w := by
  have hm : (fn.results.mapM (resGet tmps)).run P w = .ok vs.toArray w := by
    rw [Array.mapM_eq_mapM_toList, Sem.run_map, h]
    rfl
  have hr : results fn tmps = (do
      let vs ← fn.results.mapM (resGet tmps)
      pure (if h : vs.size = 1 then vs[0] else .tuple vs)) := by
    unfold results
    congr 1
  rw [hr, Sem.run_bind, hm]
  match vs with
  | [x] => exact ⟨x, rfl, rfl⟩
  | [] => exact ⟨.tuple #[], rfl, rfl⟩
  | x :: y :: zs => exact ⟨_, rfl, by simp⟩

theorem initEnv_get : ∀ {args : List V} {n k : Nat} {v : AV}, get (initEnv n args) k = some v → ∃ j x, k = n + j ∧ args[j]? = some x ∧ v = initAV x
  | [], n, k, v, h => by cases h
  | x :: r, n, k, v, h => by
    have : get (initEnv n (x :: r)) k = bif Nat.beq n k then some (initAV x) else get (initEnv (n + 1) r) k := rfl
    rw [this] at h
    cases hb : Nat.beq n k with
    | true =>
      have e := Nat.eq_of_beq_eq_true hb
      simp only [hb, cond_true, Option.some.injEq] at h
      exact ⟨0, x, by omega, rfl, h.symm⟩
    | false =>
      simp only [hb, cond_false] at h
      obtain ⟨j, y, h1, h2, h3⟩ := initEnv_get h
      exact ⟨j + 1, y, by omega, by simpa using h2, h3⟩

/-- THE CONTRACT OF A FUNCTION, FROM THE EVALUATION OF ITS BODY. -/
theorem fnAt_of_ev (hE : TOk P E) (hdraw : ∀ (nt : Nat) (w0 : Base) (id : Nat) (ops : Array Oper) (K : St → Prop) (σ : St) (G : Gh) (a : Act) (w : World), drawOK ops = true → evOps P E nt false ops ops.toList K σ → Rel w0 σ G nt a w →
      (Code.region id ops true).wp P (Post w0 nt fun e σ' => e = .normal ∧ K σ') a w)
    (hdrawD : ∀ (nt : Nat) (w0 : Base) (id : Nat) (ops : Array Oper) (bid : Nat) (K : St → Prop) (σ : St) (G : Gh) (a : Act) (w : World), drawOK ops = true → (∃ c, get σ.objs bid = some c) → evOpsD P E nt ops bid ops.toList K σ → Rel w0 σ G nt a w →
      (Code.region id ops true).wp P (Post w0 nt fun e σ' => e = .normal ∧ K σ') a w)
    {f : FuncId} {fn : Func} {c : Code} (hf : P.funcs[f]? = some fn) (hb : fn.body = some c) (hn : (fn.name == "runtime.NumGoroutine") = false) {args : List V} {rs : List RV} (hlen : Nat.ble args.length fn.ntmps = true)
    (h : ev P E fn.ntmps c (retK E fn.results.toList rs) ⟨initEnv 0 args, [], 0⟩) : FnAt P f args rs := by
  refine ⟨⟨fn, c, hf, hb, hn⟩, fun w vs hvs => ?_⟩
  have hlen' := Nat.le_of_ble_eq_true hlen
  have hvl : ∀ {as : List V} {us : List Value}, repVs w as us → us.length = as.length := by
    intro as
    induction as with
    | nil => intro us h; simp only [repVs] at h; simp [h]
    | cons x xs ih => intro us h; obtain ⟨v, vs', F, h1, _, h3⟩ := h; subst h1; simp [ih h3]
  have hget : ∀ {as : List V} {us : List Value} {j : Nat} {x : V}, repVs w as us → as[j]? = some x → ∃ u F, us[j]? = some u ∧ x.rep w u F := by
    intro as
    induction as with
    | nil => intro us j x _ hj; simp at hj
    | cons y ys ih =>
      intro us j x h hj
      obtain ⟨v, vs', F, h1, h2, h3⟩ := h
      subst h1
      cases j with
      | zero => simp at hj; subst hj; exact ⟨v, F, by simp, h2⟩
      | succ j => obtain ⟨u, F', h4, h5⟩ := ih h3 (by simpa using hj); exact ⟨u, F', by simpa using h4, h5⟩
  let G0 : Gh := ⟨fun _ => False, fun _ => undef, fun _ => [], fun _ => [], fun b => b < w.heap.size, undef⟩
  have himm : ∀ F, Imm [] G0 F := fun F id hl => hl.1.elim
  have hsz : (vs.toArray ++ Array.replicate (fn.ntmps - vs.toArray.size) undef).size = fn.ntmps := by
    have := hvl hvs
    simp
    omega
  have hR : Rel ⟨w, [], fun b => b < w.heap.size, undef⟩ ⟨initEnv 0 args, [], 0⟩ G0 fn.ntmps { tmps := vs.toArray ++ Array.replicate (fn.ntmps - vs.toArray.size) undef, defers := [] } w := by
    refine ⟨⟨⟨rfl, rfl, rfl, Nat.le_refl _, fun _ _ _ => rfl⟩, fun _ h => h, ⟨rfl, rfl⟩, fun id o ha => ha.elim, fun id hl => hl.1.elim, fun i j hi => hi.1.elim, fun id hl => hl.1.elim, fun id hl => hl.1.elim⟩, fun k v hk => ?_, fun k v hk => ?_, hsz, fun j hj => hj.elim, fun id o ho => (by cases ho), rfl⟩
    · obtain ⟨j, x, h1, h2, h3⟩ := initEnv_get hk
      have hkj : k = j := by omega
      subst hkj
      obtain ⟨u, F, h4, h5⟩ := hget hvs h2
      have hk' : k < vs.length := (List.getElem?_eq_some_iff.1 h4).1
      have hv : (vs.toArray ++ Array.replicate (fn.ntmps - vs.toArray.size) undef).getD k undef = u := by
        rw [Array.getD_eq_getD_getElem?, Array.getElem?_append_left (by simpa using hk')]
        simp [h4]
      simp only [hv]
      subst h3
      have hlt := V.rep_lt x u F h5
      cases x with
      | one x => simp only [initAV, AV.rep]; exact ancC_rep h5 (himm F) hlt
      | agg xs =>
        obtain ⟨us, h6, h7⟩ := h5
        simp only [initAV, AV.rep]
        exact ⟨us, h6, ancCs_rep h7 (himm F) hlt⟩
    · obtain ⟨j, x, h1, h2, _⟩ := initEnv_get hk
      have := (List.getElem?_eq_some_iff.1 h2).1
      omega
  refine calls_of_wp hf hb (wp_mono (ev_sound hE (hdraw fn.ntmps _) (hdrawD fn.ntmps _) c h hR) ?_)
  rintro e a' w' ⟨ex, σ', G', rfl, hk, hR'⟩
  have fin : (resAV E σ' fn.results.toList fun vs => outVs σ'.objs vs rs fun ids => scase (nodupB ids) True False) → a'.defers = [] ∧ ∃ v, (results fn a'.tmps).run P w' = .ok v w' ∧
      ∃ us F v', Ending.returned v = .returned v' ∧ retOf us v' ∧ repRVs w' rs us F ∧ F.Nodup ∧ (∀ b ∈ F, w.heap.size ≤ b ∧ ∃ arr e, w'.heap[b]? = some (.cells arr e (0, 0))) ∧ Below w.heap.size w w' := by
    intro hk
    obtain ⟨avs, us, h1, h2, h3⟩ := resAV_sound hE hR' hk
    obtain ⟨ids, F, h4, h5, h6, h7, h8⟩ := outVs_sound hR'.mem h1 h2
    obtain ⟨v, h9, h10⟩ := run_results h3
    exact ⟨hR'.defers, v, h10, us, F, v, rfl, h9, h5, h7 (nodupB_iff (by rcases scase_out h4 with ⟨h, _⟩ | ⟨_, h⟩ <;> first | exact h | exact h.elim)), fun b hb => by
      obtain ⟨i, hi, hbi⟩ := h8 b hb
      obtain ⟨⟨h11, _⟩, h12⟩ := hR'.mem.lo i (h6 i hi) b hbi
      exact ⟨by simpa using h11, h12⟩, ⟨hR'.mem.below.os, hR'.mem.below.tape, hR'.mem.below.output, hR'.mem.below.size, fun b hb => hR'.mem.below.block b hb (by simp)⟩⟩
  cases ex with
  | normal => exact fin hk
  | ret => exact fin hk
  | exit id => exact hk.elim
end
end
end Go.Vm

namespace Go.Vm
open Go.RowKit

theorem fieldsOk_of {P : Program} {fs : Array Field} (h : (fs.toList.all fun f => match P.info? f.type with | some i => i.size != 0 | none => false) = true) : ∀ f ∈ fs.toList, ∃ i, P.info? f.type = some i ∧ i.size ≠ 0 := by
  intro f hf
  have := List.all_eq_true.1 h f hf
  split at this
  · rename_i i hi
    exact ⟨i, hi, by simpa using this⟩
  · cases this

def aggD : TypeDesc → Bool
  | .struct _ => true
  | .array _ _ => true
  | _ => false

theorem TIok.mk_ {P : Program} {t : Nat} {ti : TI} {z : Value} {d : TypeDesc} (h1 : (P.info? t).map (fun i => (i.size, i.bytes, i.zero)) = some (ti.size, ti.bytes, some z)) (hz : z.cells = (ti.zero.map C.plain).toArray) (hz2 : z.cells.size = ti.size)
    (hd : P.underlying t = some d) (ha : aggD d = ti.agg) (hk : TKok P d ti.k) (hp : ti.zero.all C.isPlain = true)
    (he : ti.cmp = true → P.eqGuardType P.depth t = false ∧ ∀ (xs ys : List Int) (w : World), xs.length = ti.size → ys.length = ti.size →
      (Op.equal t (.agg (xs.map (Value.int .i64)).toArray) (.agg (ys.map (Value.int .i64)).toArray)).run P w = .ok (xs == ys) w) : TIok P t ti := by
  refine ⟨?_, ⟨d, hd, by rw [← ha]; cases d <;> rfl, hk⟩, hp, he⟩
  cases hi : P.info? t with
  | none => rw [hi] at h1; cases h1
  | some i =>
    rw [hi] at h1
    simp only [Option.map_some, Option.some.injEq, Prod.mk.injEq] at h1
    exact ⟨i, z, rfl, h1.1, h1.2.1, h1.2.2, hz, hz2⟩

theorem tok_of {P : Program} {l : List (Nat × TI)} (h : ∀ p ∈ l, TIok P p.1 p.2) : TOk P (get l) := by
  intro t ti hg
  induction l with
  | nil => cases hg
  | cons p r ih =>
    obtain ⟨k, v⟩ := p
    cases hb : Nat.beq k t with
    | true =>
      have := Nat.eq_of_beq_eq_true hb
      subst this
      simp only [get, hb, cond_true, Option.some.injEq] at hg
      subst hg
      exact h (k, v) (by simp)
    | false => simp only [get, hb, cond_false] at hg; exact ih (fun q hq => h q (by simp [hq])) hg

/-- A struct whose cells are all ints, compared cell by cell. -/
theorem eqFields_ints {P : Program} {xs ys : List Int} {w : World} : ∀ (fs : List Field) (k : Nat), (∀ f ∈ fs, f.name ≠ "_" ∧ P.underlying f.type = some (.int .i64)) → (fs.map (·.offset)) = List.range' k fs.length → k + fs.length = xs.length → ys.length = xs.length → ∀ d,
    (Op.eqFields (d + 1) (xs.map (Value.int .i64)).toArray (ys.map (Value.int .i64)).toArray fs).run P w = .ok (xs.drop k == ys.drop k) w
  | [], k, _, _, h3, h4, d => by
    simp only [List.length_nil, Nat.add_zero] at h3
    rw [List.drop_of_length_le (by omega), List.drop_of_length_le (by omega)]
    simp [Op.eqFields]
  | f :: fs, k, h1, h2, h3, h4, d => by
    simp only [List.map_cons, List.length_cons, List.range'_succ, List.cons.injEq] at h2
    simp only [List.length_cons] at h3
    obtain ⟨hn, hu⟩ := h1 f (by simp)
    have ih := eqFields_ints (xs := xs) (ys := ys) (w := w) fs (k + 1) (fun g hg => h1 g (by simp [hg])) h2.2 (by omega) h4 d
    have hx : k < xs.length := by omega
    have hy : k < ys.length := by omega
    have hpart : ∀ (zs : List Int) (hz : k < zs.length) (w : World), (part f.type (zs.map (Value.int .i64)).toArray f.offset).run P w = .ok (.int .i64 zs[k]) w := fun zs hz w => by
      simp [part, isAgg, run_underlying hu, h2.1, hz]
    have hag : ∀ (w : World) (a b : Int), (Op.equalIn (d + 1) f.type (.int .i64 a) (.int .i64 b)).run P w = .ok (a == b) w := fun w a b => by
      simp [Op.equalIn, run_underlying hu]
    simp only [Op.eqFields, if_pos hn, Sem.run_bind, hpart xs hx, hpart ys hy, Result.andThen_ok, hag]
    rw [List.drop_eq_getElem_cons hx, List.drop_eq_getElem_cons hy]
    cases hb : (xs[k] == ys[k]) with
    | false => simp only [Bool.not_false, if_true, Sem.run_pure, List.cons_beq_cons, hb, Bool.false_and]
    | true => simp only [Bool.not_true, Bool.false_eq_true, if_false, ih, List.cons_beq_cons, hb, Bool.true_and]

theorem tiEq_of (P : Program) (t : Nat) (ti : TI) {fs : Array Field} (h1 : P.eqGuardType P.depth t = false) (h2 : P.stoodInHeld t = false) (hd : P.underlying t = some (.struct fs)) (hsz : fs.size = ti.size)
    (hf : ((fs.toList.all fun f => f.name != "_" && (match P.underlying f.type with | some (.int .i64) => true | _ => false)) && (fs.toList.map (·.offset) == List.range' 0 fs.toList.length)) = true) :
    ti.cmp = true → P.eqGuardType P.depth t = false ∧ ∀ (xs ys : List Int) (w : World), xs.length = ti.size → ys.length = ti.size →
      (Op.equal t (.agg (xs.map (Value.int .i64)).toArray) (.agg (ys.map (Value.int .i64)).toArray)).run P w = .ok (xs == ys) w := by
  intro _
  refine ⟨h1, fun xs ys w hx hy => ?_⟩
  simp only [Bool.and_eq_true] at hf
  have hfo : P.fieldsOf t = fs := by simp [Program.fieldsOf, hd]
  have hr := run_equalIn_struct (P := P) w 9999 t (xs.map (Value.int .i64)).toArray (ys.map (Value.int .i64)).toArray (by rw [hfo]; exact hd) h2
  rw [hfo] at hr
  have h9 := eqFields_ints (P := P) (xs := xs) (ys := ys) (w := w) fs.toList 0 (fun f hff => by
    have := List.all_eq_true.1 hf.1 f hff
    simp only [Bool.and_eq_true] at this
    refine ⟨by simpa using this.1, ?_⟩
    have h3 := this.2
    split at h3
    · assumption
    · cases h3) (by simpa using hf.2) (by simp; omega) (by omega) 9998
  show (Op.equalIn 10000 t _ _).run P w = _
  rw [hr, h9]
  simp
end Go.Vm

namespace Go.Vm
open Go.RowKit

/-! ### What the check says -/
inductive Reach (ops : Array Oper) : Nat → Nat → Prop
  | edge {i : Nat} {o : Oper} {e : Edge} : ops[i]? = some o → e ∈ o.after → Region.binds .any e = true → Reach ops i e.on
  | step {i k : Nat} {o : Oper} {e : Edge} : ops[i]? = some o → e ∈ o.after → Region.binds .any e = true → Reach ops e.on k → Reach ops i k

theorem memN_iff {d : Nat} : ∀ {l : List Nat}, memN d l = true ↔ d ∈ l
  | [] => by simp [memN]
  | x :: r => by
    cases h : Nat.beq x d with
    | true => have := Nat.eq_of_beq_eq_true h; subst this; simp [memN]
    | false =>
      have hne : d ≠ x := fun e => by subst e; simp at h
      simp [memN, h, memN_iff (l := r), hne]

theorem mask_bits {T : List Nat} {j : Nat} : ∀ {es : List Edge}, (mask T es).testBit j = true → ∃ e ∈ es, Region.binds .any e = true ∧ ∃ x, T[e.on]? = some x ∧ (x.testBit j = true ∨ j = e.on)
  | [], h => by simp [mask] at h
  | e :: r, h => by
    have rest : (mask T r).testBit j = true → ∃ e' ∈ e :: r, Region.binds .any e' = true ∧ ∃ x, T[e'.on]? = some x ∧ (x.testBit j = true ∨ j = e'.on) := fun h => by
      obtain ⟨e', h1, h2⟩ := mask_bits h
      exact ⟨e', by simp [h1], h2⟩
    cases hb : Region.binds .any e with
    | false => simp only [mask, hb, cond_false] at h; exact rest h
    | true =>
      simp only [mask, hb, cond_true] at h
      split at h
      · rename_i x hx
        rw [Nat.testBit_or, Nat.testBit_or, Bool.or_eq_true, Bool.or_eq_true] at h
        rcases h with h | h | h
        · exact rest h
        · exact ⟨e, by simp, hb, x, hx, .inl h⟩
        · refine ⟨e, by simp, hb, x, hx, .inr ?_⟩
          rw [Nat.shiftLeft_eq, Nat.one_mul, Nat.testBit_two_pow] at h
          simpa using Eq.symm (of_decide_eq_true h)
      · exact rest h

theorem masks_reach {ops : Array Oper} : ∀ (l : List Oper) (T : List Nat), (∀ i o, l[i]? = some o → ops[T.length + i]? = some o) → (∀ i x j, T[i]? = some x → x.testBit j = true → Reach ops i j) →
    ∀ i x j, (masks l T)[i]? = some x → x.testBit j = true → Reach ops i j
  | [], T, _, hT, i, x, j, h, hb => hT i x j h hb
  | o :: r, T, hl, hT, i, x, j, h, hb => by
    simp only [masks] at h
    refine masks_reach r (T ++ [mask T o.after.toList]) (fun k q hk => ?_) (fun k y m hk hm => ?_) i x j h hb
    · have := hl (k + 1) q (by simpa using hk)
      rw [List.length_append, List.length_singleton]
      rw [show T.length + 1 + k = T.length + (k + 1) by omega]
      exact this
    · rcases Nat.lt_or_ge k T.length with hlt | hge
      · rw [List.getElem?_append_left hlt] at hk
        exact hT k y m hk hm
      · rw [List.getElem?_append_right hge] at hk
        have hk0 : k - T.length = 0 := by
          have := (List.getElem?_eq_some_iff.1 hk).1
          simpa using this
        have hke : k = T.length := by omega
        subst hke
        simp at hk
        subst hk
        obtain ⟨e, h1, h2, z, h3, h4⟩ := mask_bits hm
        have ho : ops[T.length]? = some o := by simpa using hl 0 o (by simp)
        rcases h4 with h4 | rfl
        · exact .step ho (by simpa using h1) h2 (hT _ z m h3 h4)
        · exact .edge ho (by simpa using h1) h2

structure DrawOK (ops : Array Oper) : Prop where
  pair : ∀ (i j : Nat) (x y : Oper), j < i → ops[j]? = some x → ops[i]? = some y → (∀ d, x.dst = some d → y.dst ≠ some d) ∧ (conflict ops x y = true → Reach ops i j)
  self : ∀ (i : Nat) (y : Oper) (d : Nat), ops[i]? = some y → y.dst = some d → d ∉ y.looksAt ops
  back : ∀ (i : Nat) (y : Oper) (e : Edge), ops[i]? = some y → e ∈ y.after → Region.binds .any e = true → e.on < i

theorem pairsOK_spec {ops : Array Oper} {m : Nat} {y : Oper} : ∀ {l : List Oper} {j : Nat}, pairsOK ops m y j l = true → ∀ k x, l[k]? = some x → sameDst x.dst y.dst = false ∧ (conflict ops x y = true → m.testBit (j + k) = true)
  | [], j, _, k, x, h => by simp at h
  | z :: r, j, h, k, x, hk => by
    simp only [pairsOK, Bool.and_eq_true, Bool.or_eq_true, Bool.not_eq_true'] at h
    obtain ⟨⟨h1, h2⟩, h3⟩ := h
    cases k with
    | zero =>
      simp at hk
      subst hk
      exact ⟨h1, fun hc => by rcases h2 with h2 | h2 <;> simp_all⟩
    | succ k =>
      have := pairsOK_spec h3 k x (by simpa using hk)
      rw [show j + (k + 1) = j + 1 + k by omega]
      exact this

theorem drawOK_spec {ops : Array Oper} (h : drawOK ops = true) : DrawOK ops := by
  unfold drawOK at h
  have hreach := masks_reach (ops := ops) ops.toList [] (fun i o hi => by simpa using hi) (fun i x j hi => by simp at hi)
  generalize masks ops.toList [] = T at h hreach
  have key : ∀ (l pre : List Oper) (i : Nat), pre.length = i → pre ++ l = ops.toList → allOK ops T i pre l = true → ∀ k y, l[k]? = some y →
      (∃ m, T[i + k]? = some m ∧ ∀ j x, j < i + k → ops[j]? = some x → sameDst x.dst y.dst = false ∧ (conflict ops x y = true → m.testBit j = true)) ∧ dstIn y.dst (y.looksAt ops) = false ∧
        ∀ e ∈ y.after, Region.binds .any e = true → e.on < i + k := by
    intro l
    induction l with
    | nil => intro pre i _ _ _ k y hk; simp at hk
    | cons z r ih =>
      intro pre i hpl happ hok k y hk
      simp only [allOK, Bool.and_eq_true] at hok
      obtain ⟨⟨h1, h2, h3⟩, h4⟩ := hok
      cases k with
      | zero =>
        simp at hk
        subst hk
        refine ⟨?_, by simpa using h2, fun e he hb => ?_⟩
        · split at h1
          · rename_i m hm
            refine ⟨m, hm, fun j x hj hx => ?_⟩
            have hpj : pre[j]? = some x := by
              rw [← Array.getElem?_toList, ← happ, List.getElem?_append_left (by omega)] at hx
              exact hx
            simpa using pairsOK_spec h1 j x hpj
          · cases h1
        · have := List.all_eq_true.1 h3 e (by simpa using he)
          simp only [hb, Bool.not_true, Bool.false_or] at this
          have : e.on + 1 ≤ i := by simpa [Nat.blt] using this
          omega
      | succ k =>
        have := ih (pre ++ [z]) (i + 1) (by simp [hpl]) (by simpa using happ) h4 k y (by simpa using hk)
        rw [show i + (k + 1) = i + 1 + k by omega]
        exact this
  have k0 := fun k y hk => key ops.toList [] 0 rfl rfl h k y hk
  simp only [Nat.zero_add, Array.getElem?_toList] at k0
  refine ⟨fun i j x y hj hx hy => ?_, fun i y d hy hd => ?_, fun i y e hy he hb => (k0 i y hy).2.2 e he hb⟩
  · obtain ⟨m, hm, hall⟩ := (k0 i y hy).1
    obtain ⟨h1, h2⟩ := hall j x hj hx
    refine ⟨fun d hd hd' => ?_, fun hc => hreach i m j hm (h2 hc)⟩
    rw [hd, hd'] at h1
    simp [sameDst] at h1
  · have := (k0 i y hy).2.1
    rw [hd] at this
    simp only [dstIn] at this
    intro hmem
    rw [memN_iff.2 hmem] at this
    cases this
end Go.Vm

namespace Go.Vm
open Go.RowKit

section
variable {P : Program} {E : Nat → Option TI} {nt : Nat} {w0 : Base} {ops : Array Oper}

/-- The slots that an operation looks at read as the environment has them. -/
def Slots (nt : Nat) (ops : Array Oper) (o : Oper) (env : List (Nat × AV)) (O : List (Nat × Ob)) (G : Gh) (w : World) (a : Act) : Prop :=
  a.tmps.size = nt ∧ ∀ k ∈ o.looksAt ops, ∀ u, get env k = some u → (k < nt ∨ isFrm u = true) ∧ u.rep O G w (a.tmps.getD k undef)

theorem Slots.opsRep {o : Oper} {env : List (Nat × AV)} {O : List (Nat × Ob)} {G : Gh} {w : World} {a : Act} (h : Slots nt ops o env O G w a) : OpsRep (val env) o.op O G w a := by
  intro x hx v hv
  cases x with
  | tmp t =>
    simp only [val] at hv
    split at hv
    · rename_i u hu
      injection hv with hv
      subst hv
      exact strip_rep (h.2 t (by unfold Oper.looksAt; exact List.mem_append_left _ (List.mem_filterMap.2 ⟨.tmp t, by simpa using hx, rfl⟩)) u hu).2
    · cases hv
  | const c => exact constAV_rep hv
  | global g => cases hv
  | func f =>
    simp only [val, Option.some.injEq] at hv
    subst hv
    exact ⟨rfl, by simp⟩

def GoA (P : Program) (nt : Nat) (ops : Array Oper) (i : Nat) (o : Oper) (σ : St) (v : AV) : Prop :=
  ∀ O G w a (Kc : Act → World → Prop) (Q : Exit → Act → World → Prop), Slots nt ops o σ.env O G w a → (∀ u, v.rep O G w u → Kc (a.put o.dst u) w) → wpOp P ops Q i Kc a w
def GoB (P : Program) (nt : Nat) (ops : Array Oper) (i : Nat) (o : Oper) (σ : St) (v : AV) (σ' : St) : Prop :=
  ∀ (w0 : Base) O G w a (Kc : Act → World → Prop) (Q : Exit → Act → World → Prop), (∀ id ob, get σ'.objs id = some ob → get O id = some ob) → Mem w0 O G w → Slots nt ops o σ.env O G w a →
    (∀ j, σ.next ≤ j → j < σ'.next → ¬ G.A j) →
    (∀ G' u w', Mem w0 O G' w' → Pres O G w O G' w' → v.rep O G' w' u → (∀ j, G'.A j → G.A j ∨ (σ.next ≤ j ∧ j < σ'.next)) → Kc (a.put o.dst u) w') → wpOp P ops Q i Kc a w
def GoE (P : Program) (nt : Nat) (ops : Array Oper) (i : Nat) (o : Oper) (σ : St) (v : AV) (σ' : St) : Prop :=
  ∀ (w0 : Base) G w a (Kc : Act → World → Prop) (Q : Exit → Act → World → Prop), Mem w0 σ.objs G w → Slots nt ops o σ.env σ.objs G w a → (∀ j, G.A j → j < σ.next) →
    (∀ G' u w', Mem w0 σ'.objs G' w' → Pres σ.objs G w σ'.objs G' w' → v.rep σ'.objs G' w' u → (∀ j, G'.A j → j < σ'.next) → Kc (a.put o.dst u) w') → wpOp P ops Q i Kc a w

structure Fact (P : Program) (nt : Nat) (ops : Array Oper) (i : Nat) (o : Oper) (σ : St) (v : AV) (σ' : St) : Prop where
  op : ops[i]? = some o
  dst : ∀ d, o.dst = some d → d < nt
  next : σ.next ≤ σ'.next
  wf : σ'.wf
  env : ∀ k u, get σ'.env k = some u → (o.dst = some k ∧ u = v) ∨ (o.dst ≠ some k ∧ get σ.env k = some u)
  ext : clsO ops o ≠ 2 → ∀ id, id < σ.next → get σ'.objs id = get σ.objs id
  a : clsO ops o = 0 → σ'.objs = σ.objs ∧ σ'.next = σ.next ∧ GoA P nt ops i o σ v
  b : clsO ops o = 1 → GoB P nt ops i o σ v σ'
  e : clsO ops o = 2 → GoE P nt ops i o σ v σ'

theorem cls_le (op : Op) : cls op = 0 ∨ cls op = 1 ∨ cls op = 2 := by
  cases op with
  | call c =>
    obtain ⟨cal, args, argTypes⟩ := c
    cases cal with
    | builtin b => cases b <;> simp [cls]
    | _ => simp [cls]
  | _ => simp [cls]

/-- What one operation's evaluation says, by its class. -/
def Facts (P : Program) (o : Oper) (σ : St) (K : AV → St → Prop) : Prop :=
  ∃ av σ', K av σ' ∧ σ'.env = σ.env ∧ σ.next ≤ σ'.next ∧ σ'.wf ∧ (cls o.op ≠ 2 → ∀ id, id < σ.next → get σ'.objs id = get σ.objs id) ∧
    (cls o.op = 0 → σ' = σ ∧ Gives P (val σ.env) o av) ∧ (cls o.op = 1 → GoesB P (val σ.env) o σ σ' av) ∧ (cls o.op = 2 → GoesE P (val σ.env) o σ σ' av)

theorem clsO_le (ops : Array Oper) (o : Oper) : clsO ops o = 0 ∨ clsO ops o = 1 ∨ clsO ops o = 2 := by
  unfold clsO
  split
  · exact .inr (.inl rfl)
  · exact cls_le o.op

theorem evOp_fact (hE : TOk P E) {o : Oper} {σ : St} (hw : σ.wf) {K : AV → St → Prop} (h : evOp P E false o.op σ K) : Facts P o σ K := by
  have caseA : cls o.op = 0 → opA E (val σ.env) o.op (fun v => K v σ) → Facts P o σ K := fun hc h => by
    obtain ⟨av, hk, hg⟩ := opA_sound hE h
    exact ⟨av, σ, hk, rfl, Nat.le_refl _, hw, fun _ _ _ => rfl, fun _ => ⟨rfl, hg⟩, fun h => by omega, fun h => by omega⟩
  have caseB : cls o.op = 1 → opB P E (val σ.env) o.op σ K → Facts P o σ K := fun hc h => by
    obtain ⟨av, σ', hk, hext, hwf, hg⟩ := opB_sound hE hw h
    exact ⟨av, σ', hk, hext.env, hext.next, hwf, fun _ => hext.objs, fun h => by omega, fun _ => hg, fun h => by omega⟩
  have caseE : cls o.op = 2 → opE E (val σ.env) o.op σ K → Facts P o σ K := fun hc h => by
    obtain ⟨av, σ', hk, henv, hnext, hwf, hg⟩ := opE_sound hE hw h
    exact ⟨av, σ', hk, henv, hnext, hwf, fun h => by omega, fun h => by omega, fun h => by omega, fun _ => hg⟩
  obtain ⟨dst, op, type, pos, after, guard⟩ := o
  simp only at h caseA caseB caseE ⊢
  cases op with
  | store t x v => exact caseE rfl h
  | alloc t => exact caseB rfl h
  | box t x => exact caseB rfl h
  | build t ps => exact caseB rfl h
  | buildSlice t n ps => exact caseB rfl h
  | load t x => exact caseB rfl h
  | makeSlice t l c => exact caseB rfl h
  | indexAddr t x i => exact caseB rfl h
  | slice t x l hh m => exact caseB rfl h
  | convert s d x => exact caseB rfl h
  | call c =>
    obtain ⟨cal, args, argTypes⟩ := c
    cases cal with
    | builtin b => cases b <;> first | exact caseE rfl h | exact caseB rfl h | exact caseA rfl h
    | invoke r m => exact caseA rfl h
    | value f =>
      rcases h with h | ⟨hf, _⟩
      · exact caseB rfl h
      · cases hf
  | _ => exact caseA rfl h

/-- The same, in its region. -/
def FactsO (P : Program) (ops : Array Oper) (o : Oper) (σ : St) (K : AV → St → Prop) : Prop :=
  ∃ av σ', K av σ' ∧ σ'.env = σ.env ∧ σ.next ≤ σ'.next ∧ σ'.wf ∧ (clsO ops o ≠ 2 → ∀ id, id < σ.next → get σ'.objs id = get σ.objs id) ∧
    (clsO ops o = 0 → σ' = σ ∧ Gives P (val σ.env) o av) ∧ (clsO ops o = 1 → GoesB P (val σ.env) o σ σ' av) ∧ (clsO ops o = 2 → GoesE P (val σ.env) o σ σ' av)

theorem evOpF_fact (hE : TOk P E) {ops : Array Oper} {o : Oper} {σ : St} (hw : σ.wf) {K : AV → St → Prop} (h : evOpF P E false (frO false ops o) o.op σ K) : FactsO P ops o σ K := by
  unfold FactsO clsO
  cases hf : frO false ops o with
  | true =>
    rw [hf] at h
    obtain ⟨av, σ', hk, hext, hwf, hg⟩ := opF_sound hE hw h
    exact ⟨av, σ', hk, hext.env, hext.next, hwf, fun _ => hext.objs, (fun h => by cases h), fun _ => hg, (fun h => by cases h)⟩
  | false =>
    rw [hf] at h
    exact evOp_fact hE hw h

theorem lit_get {σ : St} {d : Nat} {b c : Bool} (hb : get σ.env d = some (.c (.t (.bool b)))) (e : b = c) {k : Nat} {u : AV} (h : get (σ.put (some d) (vbool c)).env k = some u) : get σ.env k = some u := by
  subst e
  by_cases e : k = d
  · subst e
    have : some (vbool b) = some u := by rw [← h]; exact (get_cons_same _ _ _).symm
    rw [← this]; exact hb
  · rw [← h]; exact (get_cons_other _ _ _ _ e).symm

/-- The environment behind an operation. -/
theorem put_env {σ τ σ' : St} {o : Oper} {v : AV} (hτ : ∀ k u, get τ.env k = some u → get σ.env k = some u) (he : σ'.env = τ.env) : ∀ k u, get (σ'.put o.dst v).env k = some u → (o.dst = some k ∧ u = v) ∨ (o.dst ≠ some k ∧ get σ.env k = some u) := by
  intro k u h
  cases hd : o.dst with
  | none =>
    rw [hd] at h
    exact .inr ⟨by simp, hτ k u (by rw [← he]; exact h)⟩
  | some d =>
    rw [hd] at h
    by_cases e : k = d
    · subst e
      have : some v = some u := by rw [← h]; exact (get_cons_same _ _ _).symm
      injection this with this
      exact .inl ⟨rfl, this.symm⟩
    · refine .inr ⟨fun e' => by injection e' with e'; exact e e'.symm, hτ k u ?_⟩
      rw [← he, ← h]; exact (get_cons_other _ _ _ _ e).symm

theorem put_st (σ : St) (d : Option Nat) (v : AV) : (σ.put d v).objs = σ.objs ∧ (σ.put d v).next = σ.next ∧ (σ.wf → (σ.put d v).wf) := by
  cases d <;> exact ⟨rfl, rfl, fun h id o ho => h id o ho⟩

theorem fact_run (hE : TOk P E) {i : Nat} {o : Oper} (hi : ops[i]? = some o) {σ τ : St} (hw : σ.wf) (hd : dstOk nt o.dst = true) (hτ : ∀ k u, get τ.env k = some u → get σ.env k = some u) (ho : τ.objs = σ.objs) (hn : τ.next = σ.next)
    (hwant : ∀ O G w a, Slots nt ops o σ.env O G w a → Region.wanted o (yielded ops a.tmps) = true) {K : AV → St → Prop} (h : evOpF P E false (frO false ops o) o.op τ K) : ∃ av σ', K av σ' ∧ Fact P nt ops i o σ av (σ'.put o.dst av) := by
  have hwτ : τ.wf := fun id x hx => by rw [hn]; exact hw id x (by rw [← ho]; exact hx)
  obtain ⟨av, σ', hk, henv, hnext, hwf, hext, hA, hB, hE'⟩ := evOpF_fact hE hwτ h
  obtain ⟨p1, p2, p3⟩ := put_st σ' o.dst av
  have hsl : ∀ {O G w a}, Slots nt ops o σ.env O G w a → OpsRep (val τ.env) o.op O G w a := fun {O G w a} hs =>
    Slots.opsRep (ops := ops) (nt := nt) ⟨hs.1, fun k hk u hu => hs.2 k hk u (hτ k u hu)⟩
  refine ⟨av, σ', hk, hi, fun d e => ?_, by rw [p2, ← hn]; exact hnext, p3 hwf, put_env hτ henv, fun hc id hid => ?_, fun hc => ?_, fun hc => ?_, fun hc => ?_⟩
  · rw [e] at hd
    have : d + 1 ≤ nt := by simpa [dstOk, Nat.blt] using hd
    exact this
  · rw [p1, hext hc id (by rw [hn]; exact hid), ho]
  · obtain ⟨rfl, hg⟩ := hA hc
    refine ⟨by rw [p1, ho], by rw [p2, hn], fun O G w a Kc Q hs hK => ?_⟩
    unfold wpOp
    simp only [hi, hwant O G w a hs, if_true]
    obtain ⟨u, h1, h2⟩ := hg O G w a (hsl hs)
    exact .inl (wp_value h1 (hK u h2))
  · intro w0 O G w a Kc Q hsub hM hs hfr hK
    unfold wpOp
    simp only [hi, hwant O G w a hs, if_true]
    rw [p1] at hsub
    rw [p2] at hfr hK
    refine .inl (hB hc w0 O G w a Kc Q hsub hM (hsl hs) (fun j h1 h2 => hfr j (by rw [← hn]; exact h1) h2) (fun G' u w' a1 a2 a3 a4 => hK G' u w' a1 a2 a3 (fun j hj => ?_)))
    rcases a4 j hj with h | h
    · exact .inl h
    · exact .inr ⟨by rw [← hn]; exact h.1, h.2⟩
  · intro w0 G w a Kc Q hM hs hfr hK
    unfold wpOp
    simp only [hi, hwant _ G w a hs, if_true]
    rw [p1, p2] at hK
    rw [← ho] at hM hK hs
    exact .inl (hE' hc w0 G w a Kc Q hM (hsl (by rw [ho] at hs ⊢; exact hs)) (fun j hj => by rw [hn]; exact hfr j hj) hK)

theorem fact_skip {i : Nat} {o : Oper} (hi : ops[i]? = some o) {σ τ : St} (hw : σ.wf) (hd : dstOk nt o.dst = true) (hτ : ∀ k u, get τ.env k = some u → get σ.env k = some u) (ho : τ.objs = σ.objs) (hn : τ.next = σ.next)
    (hwant : ∀ O G w a, Slots nt ops o σ.env O G w a → Region.wanted o (yielded ops a.tmps) = false) : Fact P nt ops i o σ .junk (τ.put o.dst .junk) := by
  have hwτ : τ.wf := fun id x hx => by rw [hn]; exact hw id x (by rw [← ho]; exact hx)
  obtain ⟨p1, p2, p3⟩ := put_st τ o.dst .junk
  have run : ∀ {O G w a} {Kc : Act → World → Prop} {Q : Exit → Act → World → Prop}, Slots nt ops o σ.env O G w a → Kc (a.put o.dst undef) w → wpOp P ops Q i Kc a w := by
    intro O G w a Kc Q hs hk
    unfold wpOp
    simp only [hi, hwant O G w a hs, Bool.false_eq_true, if_false]
    exact hk
  refine ⟨hi, fun d e => ?_, by rw [p2, hn]; exact Nat.le_refl _, p3 hwτ, put_env hτ rfl, fun _ id _ => by rw [p1, ho], fun _ => ⟨by rw [p1, ho], by rw [p2, hn], fun O G w a Kc Q hs hK => run hs (hK _ (by simp only [AV.rep]))⟩, fun _ => ?_, fun _ => ?_⟩
  · rw [e] at hd
    have : d + 1 ≤ nt := by simpa [dstOk, Nat.blt] using hd
    exact this
  · exact fun w0 O G w a Kc Q _ hM hs _ hK => run hs (hK G _ w hM Pres.refl (by simp only [AV.rep]) (fun j hj => .inl hj))
  · intro w0 G w a Kc Q hM hs hfr hK
    rw [p1, p2, ho, hn] at hK
    exact run hs (hK G _ w hM Pres.refl (by simp only [AV.rep]) hfr)

theorem evOps_trace (hE : TOk P E) {K : St → Prop} : ∀ (l : List Oper) (p : Nat) (σ : St), (∀ i o, l[i]? = some o → ops[p + i]? = some o) → σ.wf → evOps P E nt false ops l K σ →
    ∃ (s : Nat → St) (av : Nat → AV), s p = σ ∧ (∀ i o, l[i]? = some o → Fact P nt ops (p + i) o (s (p + i)) (av (p + i)) (s (p + i + 1))) ∧ K (s (p + l.length))
  | [], p, σ, _, _, h => ⟨fun _ => σ, fun _ => .junk, rfl, by simp, h⟩
  | o :: rest, p, σ, hl, hw, h => by
    have hi : ops[p]? = some o := by simpa using hl 0 o (by simp)
    simp only [evOps, putK_eq] at h
    rcases scase_out h with ⟨hd, h⟩ | ⟨_, h⟩
    case inr => exact h.elim
    have next : ∀ {v : AV} {σ' : St}, Fact P nt ops p o σ v σ' → evOps P E nt false ops rest K σ' → ∃ (s : Nat → St) (av : Nat → AV), s p = σ ∧ (∀ i q, (o :: rest)[i]? = some q → Fact P nt ops (p + i) q (s (p + i)) (av (p + i)) (s (p + i + 1))) ∧ K (s (p + (o :: rest).length)) := by
      intro v σ' hf h
      obtain ⟨s, av, h1, h2, h3⟩ := evOps_trace hE rest (p + 1) σ' (fun i q hq => by
        have := hl (i + 1) q (by simpa using hq)
        rw [show p + 1 + i = p + (i + 1) by omega]; exact this) hf.wf h
      refine ⟨fun i => if i = p then σ else s i, fun i => if i = p then v else av i, by simp, fun i q hq => ?_, ?_⟩
      · cases i with
        | zero =>
          simp at hq
          subst hq
          simpa [h1] using hf
        | succ i =>
          have := h2 i q (by simpa using hq)
          rw [show p + 1 + i = p + (i + 1) by omega] at this
          have e1 : p + (i + 1) ≠ p := by omega
          have e2 : p + (i + 1) + 1 ≠ p := by omega
          simp only [e1, e2, if_false]
          exact this
      · have e1 : p + (rest.length + 1) ≠ p := by omega
        simp only [List.length_cons, e1, if_false]
        rw [show p + (rest.length + 1) = p + 1 + rest.length by omega]
        exact h3
    split at h
    · rename_i hg
      obtain ⟨av, σ', hk, hf⟩ := fact_run (nt := nt) hE hi hw hd (fun _ _ h => h) rfl rfl (fun O G w a _ => by simp [Region.wanted, hg]) h
      exact next hf hk
    · rename_i j want hg
      have h' := need_some h; clear h
      obtain ⟨d, ed, h⟩ := h'
      have hlook : d ∈ o.looksAt ops := by
        unfold Oper.looksAt
        refine List.mem_append_right _ ?_
        rw [hg]
        simp only [ed]
        simp
      have yld : ∀ {a : Act} v, a.tmps.size = nt → d < nt → a.tmps.getD d undef = v → yielded ops a.tmps j = (match v with | .bool b => some b | _ => none) := by
        intro a v hsz hdn hv
        have hdl : d < a.tmps.size := by rw [hsz]; exact hdn
        unfold yielded
        rw [ed]
        simp only [Option.bind_some]
        rw [Array.getElem?_eq_getElem hdl]
        have : a.tmps[d] = v := by rw [← hv]; simp [Array.getD, hdl]
        rw [this]
        cases v <;> rfl
      split at h
      · rename_i b hb
        have hy : ∀ O G w a, Slots nt ops o σ.env O G w a → yielded ops a.tmps j = some b := fun O G w a hs => by
          have := yld _ hs.1 ((hs.2 d hlook _ hb).1.resolve_right (by simp [isFrm])) (bool_of (hs.2 d hlook _ hb).2)
          simpa using this
        cases want with
        | true =>
          simp only at h
          rcases bcase_out h with ⟨hbt, hz⟩ | ⟨hbf, hz⟩
          · obtain ⟨av, σ', hk, hf⟩ := fact_run (nt := nt) (τ := σ.put (some d) (vbool true)) hE hi hw hd (fun k u hu => lit_get hb hbt hu) rfl rfl (fun O G w a hs => by simp [Region.wanted, hg, hy O G w a hs, hbt]) hz
            exact next hf hk
          · exact next (fact_skip (nt := nt) (τ := σ.put (some d) (vbool false)) hi hw hd (fun k u hu => lit_get hb hbf hu) rfl rfl (fun O G w a hs => by simp [Region.wanted, hg, hy O G w a hs, hbf])) hz
        | false =>
          simp only at h
          rcases bcase_out h with ⟨hbt, hz⟩ | ⟨hbf, hz⟩
          · exact next (fact_skip (nt := nt) (τ := σ.put (some d) (vbool true)) hi hw hd (fun k u hu => lit_get hb hbt hu) rfl rfl (fun O G w a hs => by simp [Region.wanted, hg, hy O G w a hs, hbt])) hz
          · obtain ⟨av, σ', hk, hf⟩ := fact_run (nt := nt) (τ := σ.put (some d) (vbool false)) hE hi hw hd (fun k u hu => lit_get hb hbf hu) rfl rfl (fun O G w a hs => by simp [Region.wanted, hg, hy O G w a hs, hbf]) hz
            exact next hf hk
      · rename_i hb
        refine next (fact_skip (nt := nt) (τ := σ) hi hw hd (fun _ _ h => h) rfl rfl (fun O G w a hs => ?_)) h
        have hv := (hs.2 d hlook _ hb).2
        simp only [AV.rep] at hv
        have := yld _ hs.1 ((hs.2 d hlook _ hb).1.resolve_right (by simp [isFrm])) hv
        simp [Region.wanted, hg, this, undef]
      · exact h.elim
end
end Go.Vm

namespace Go.Vm
open Go.RowKit

theorem countP_lt {p q : Nat → Bool} : ∀ {l : List Nat} {x : Nat}, (∀ y ∈ l, q y = true → p y = true) → x ∈ l → p x = true → q x = false → l.countP q < l.countP p
  | [], x, _, hx, _, _ => by simp at hx
  | y :: r, x, h, hx, hp, hq => by
    have hle : r.countP q ≤ r.countP p := List.countP_mono_left (fun z hz => h z (by simp [hz]))
    rw [List.countP_cons, List.countP_cons]
    rcases List.mem_cons.1 hx with rfl | hx
    · simp [hp, hq]; omega
    · have ih := countP_lt (fun z hz => h z (by simp [hz])) hx hp hq
      have := h y (by simp)
      by_cases hqy : q y = true
      · simp [hqy, this hqy]; exact ih
      · by_cases hpy : p y = true
        · simp [hqy, hpy]; omega
        · simp [hqy, hpy]; exact ih

section
variable {P : Program} {E : Nat → Option TI} {nt : Nat} {w0 : Base} {ops : Array Oper}

/-- Does the set hold? -/
def inS (listed : Array Bool) (i : Nat) : Prop := listed.getD i false = true

structure Facts0 (P : Program) (nt : Nat) (ops : Array Oper) (s : Nat → St) (av : Nat → AV) : Prop where
  fact : ∀ (i : Nat) o, ops[i]? = some o → Fact P nt ops i o (s i) (av i) (s (i + 1))
  wf : (s 0).wf
  lt : ∀ k u, get (s 0).env k = some u → k < nt ∨ isFrm u = true

/-- The place of the first change that is not yet laid. -/
structure Phase (ops : Array Oper) (listed : Array Bool) (m : Nat) : Prop where
  le : m ≤ ops.size
  old : ∀ (i : Nat) o, i < m → ops[i]? = some o → clsO ops o = 2 → inS listed i
  new : ∀ o, ops[m]? = some o → clsO ops o = 2 ∧ ¬ inS listed m

structure Inv (w0 : Base) (nt : Nat) (ops : Array Oper) (s : Nat → St) (av : Nat → AV) (listed : Array Bool) (m : Nat) (G : Gh) (a : Act) (w : World) : Prop where
  size : listed.size = ops.size
  closed : ∀ (i : Nat) o e, inS listed i → ops[i]? = some o → e ∈ o.after → Region.binds .any e = true → inS listed e.on
  ph : Phase ops listed m
  mem : Mem w0 (s m).objs G w
  laid : ∀ j, G.A j → j < (s 0).next ∨ ∃ i, inS listed i ∧ (s i).next ≤ j ∧ j < (s (i + 1)).next
  done : ∀ (i : Nat) o k, inS listed i → ops[i]? = some o → o.dst = some k → (av i).rep (s m).objs G w (a.tmps.getD k undef)
  kept : ∀ k u, get (s 0).env k = some u → (∀ (i : Nat) o, inS listed i → ops[i]? = some o → o.dst ≠ some k) → u.rep (s m).objs G w (a.tmps.getD k undef)
  tmps : a.tmps.size = nt
  defers : a.defers = []

theorem inS_lt {listed : Array Bool} {i : Nat} (h : inS listed i) : i < listed.size := by
  unfold inS at h
  rw [Array.getD_eq_getD_getElem?] at h
  rcases Nat.lt_or_ge i listed.size with hlt | hge
  · exact hlt
  · rw [Array.getElem?_eq_none hge] at h; cases h

theorem reach_in {listed : Array Bool} (hc : ∀ (i : Nat) o e, inS listed i → ops[i]? = some o → e ∈ o.after → Region.binds .any e = true → inS listed e.on) {i k : Nat} (h : Reach ops i k) : inS listed i → inS listed k := by
  induction h with
  | edge h1 h2 h3 => intro hi; exact hc _ _ _ hi h1 h2 h3
  | step h1 h2 h3 _ ih => intro hi; exact ih (hc _ _ _ hi h1 h2 h3)

theorem ready_reach {listed : Array Bool} (hc : ∀ (i : Nat) o e, inS listed i → ops[i]? = some o → e ∈ o.after → Region.binds .any e = true → inS listed e.on) {j : Nat} (hj : j ∈ Region.ready .any ops listed) {k : Nat} (h : Reach ops j k) : inS listed k := by
  obtain ⟨_, o, ho, hall⟩ := mem_ready.1 hj
  cases h with
  | edge h1 h2 h3 => rw [ho] at h1; injection h1 with h1; subst h1; exact hall _ h2 h3
  | step h1 h2 h3 h4 => rw [ho] at h1; injection h1 with h1; subst h1; exact reach_in hc h4 (hall _ h2 h3)

theorem getD_set_same {listed : Array Bool} {i : Nat} (h : i < listed.size) : inS (listed.setIfInBounds i true) i := by
  unfold inS
  rw [Array.getD_eq_getD_getElem?, Array.getElem?_setIfInBounds_self_of_lt h]
  rfl
theorem inS_set {listed : Array Bool} {i j : Nat} (h : inS (listed.setIfInBounds i true) j) : inS listed j ∨ j = i := by
  by_cases e : j = i
  · exact .inr e
  · left
    unfold inS at h ⊢
    rw [Array.getD_eq_getD_getElem?, Array.getElem?_setIfInBounds_ne (Ne.symm e)] at h
    rw [Array.getD_eq_getD_getElem?]; exact h
theorem inS_set_mono {listed : Array Bool} {i j : Nat} (h : inS listed j) : inS (listed.setIfInBounds i true) j := by
  by_cases e : j = i
  · subst e; exact getD_set_same (inS_lt h)
  · unfold inS at h ⊢
    rw [Array.getD_eq_getD_getElem?] at h
    rw [Array.getD_eq_getD_getElem?, Array.getElem?_setIfInBounds_ne (Ne.symm e)]; exact h

variable {s : Nat → St} {av : Nat → AV}

theorem next_mono (hF : Facts0 P nt ops s av) : ∀ {i j : Nat}, i ≤ j → j ≤ ops.size → (s i).next ≤ (s j).next := by
  intro i j hij hj
  induction j with
  | zero => have : i = 0 := by omega
            subst this; exact Nat.le_refl _
  | succ j ih =>
    rcases Nat.lt_or_ge i (j + 1) with h | h
    · refine Nat.le_trans (ih (by omega) (by omega)) ?_
      exact (hF.fact j ops[j] (by simp)).next
    · have : i = j + 1 := by omega
      subst this; exact Nat.le_refl _

theorem wf_all (hF : Facts0 P nt ops s av) {j : Nat} (hj : j ≤ ops.size) : (s j).wf := by
  cases j with
  | zero => exact hF.wf
  | succ j => exact (hF.fact j ops[j] (by simp)).wf

/-- No change between i and j: the objects of i are those of j. -/
theorem objs_ext (hF : Facts0 P nt ops s av) : ∀ {i j : Nat}, i ≤ j → j ≤ ops.size → (∀ (k : Nat) o, i ≤ k → k < j → ops[k]? = some o → clsO ops o ≠ 2) → ∀ id, id < (s i).next → get (s j).objs id = get (s i).objs id := by
  intro i j hij hj hno id hid
  induction j with
  | zero => have : i = 0 := by omega
            subst this; rfl
  | succ j ih =>
    rcases Nat.lt_or_ge i (j + 1) with h | h
    · have h1 := (hF.fact j ops[j] (by simp)).ext (hno j _ (by omega) (by omega) (by simp)) id (Nat.lt_of_lt_of_le hid (next_mono hF (by omega) (by omega)))
      rw [h1]
      exact ih (by omega) (by omega) (fun k o a b c => hno k o a (by omega) c)
    · have : i = j + 1 := by omega
      subst this; rfl

/-- The environment ahead of j: each slot as its one writer left it, or as it was. -/
theorem env_at (hF : Facts0 P nt ops s av) : ∀ {j : Nat}, j ≤ ops.size → ∀ k u, get (s j).env k = some u →
    (∃ i o, i < j ∧ ops[i]? = some o ∧ o.dst = some k ∧ u = av i) ∨ ((∀ (i : Nat) o, i < j → ops[i]? = some o → o.dst ≠ some k) ∧ get (s 0).env k = some u) := by
  intro j
  induction j with
  | zero => intro _ k u h; exact .inr ⟨fun i o h => by omega, h⟩
  | succ j ih =>
    intro hj k u h
    rcases (hF.fact j ops[j] (by simp)).env k u h with ⟨h1, h2⟩ | ⟨h1, h2⟩
    · exact .inl ⟨j, ops[j], by omega, by simp, h1, h2⟩
    · rcases ih (by omega) k u h2 with ⟨i, o, h3, h4⟩ | ⟨h3, h4⟩
      · exact .inl ⟨i, o, by omega, h4⟩
      · refine .inr ⟨fun i o hi ho => ?_, h4⟩
        rcases Nat.lt_or_ge i j with h | h
        · exact h3 i o h ho
        · have : i = j := by omega
          subst this
          have hio : i < ops.size := by omega
          rw [Array.getElem?_eq_getElem hio] at ho
          injection ho with ho
          rw [← ho]
          exact h1

theorem slots_at (hF : Facts0 P nt ops s av) (hd : DrawOK ops) {listed : Array Bool} {m : Nat} {G : Gh} {a : Act} {w : World} (hI : Inv w0 nt ops s av listed m G a w) {j : Nat} {o : Oper} (ho : ops[j]? = some o) (hj : j ∈ Region.ready .any ops listed) :
    Slots nt ops o (s j).env (s m).objs G w a := by
  have hjn : j < ops.size := (Array.getElem?_eq_some_iff.1 ho).1
  have hnj : ¬ inS listed j := by
    have := (mem_ready.1 hj).1
    unfold inS
    rw [Array.getD_eq_getD_getElem?] at this ⊢
    rw [Array.getElem?_eq_getElem (by rw [hI.size]; exact hjn)] at this ⊢
    simp at this ⊢
    exact this
  refine ⟨hI.tmps, fun k hk u hu => ?_⟩
  rcases env_at hF (Nat.le_of_lt hjn) k u hu with ⟨i, x, h1, h2, h3, rfl⟩ | ⟨h1, h2⟩
  · have hc : conflict ops x o = true := by simp [conflict, h3, dstIn, memN_iff.2 hk]
    have := ready_reach hI.closed hj ((hd.pair j i x o h1 h2 ho).2 hc)
    exact ⟨.inl ((hF.fact i x h2).dst k h3), hI.done i x k this h2 h3⟩
  · refine ⟨hF.lt k u h2, hI.kept k u h2 (fun i x hi hx hdx => ?_)⟩
    rcases Nat.lt_or_ge i j with h | h
    · exact h1 i x h hx hdx
    · have hne : i ≠ j := fun e => by subst e; exact hnj hi
      have hc : conflict ops o x = true := by simp [conflict, hdx, dstIn, memN_iff.2 hk]
      exact hnj (reach_in hI.closed ((hd.pair i j o x (by omega) ho hx).2 hc) hi)

theorem phase_next (m : Nat) : ∀ n, ∀ k, n - k = m → k ≤ n → ∀ (c : Nat → Bool), ∃ m', k ≤ m' ∧ m' ≤ n ∧ (∀ i, k ≤ i → i < m' → c i = false) ∧ (m' < n → c m' = true) := by
  induction m with
  | zero => intro n k h1 h2 c; exact ⟨k, Nat.le_refl _, h2, fun i _ _ => by omega, fun h => by omega⟩
  | succ m ih =>
    intro n k h1 h2 c
    cases hc : c k with
    | true => exact ⟨k, Nat.le_refl _, h2, fun i _ _ => by omega, fun _ => hc⟩
    | false =>
      obtain ⟨m', h3, h4, h5, h6⟩ := ih n (k + 1) (by omega) (by omega) c
      refine ⟨m', by omega, h4, fun i h7 h8 => ?_, h6⟩
      by_cases e : i = k
      · subst e; exact hc
      · exact h5 i (by omega) h8

/-- From a state's objects to those of a later place with no change between: what is laid stays. -/
theorem mem_later {O O' : List (Nat × Ob)} {G : Gh} {w : World} {n : Nat} (hM : Mem w0 O G w) (hA : ∀ j, G.A j → j < n) (he : ∀ id, id < n → get O' id = get O id) : Mem w0 O' G w ∧ Pres O G w O' G w := by
  have hlv : ∀ id, Lv O' G id → Lv O G id := fun id hl => ⟨hl.1, by obtain ⟨ob, hob⟩ := hl.2; exact ⟨ob, by rw [← he id (hA id hl.1)]; exact hob⟩⟩
  have hp : Pres O G w O' G w := ⟨fun id h => ⟨h, rfl⟩, fun id hl b hb => .inl ⟨id, hlv id hl, hb⟩, fun _ _ _ => rfl, Nat.le_refl _, rfl, rfl⟩
  exact ⟨⟨hM.below, hM.base, hM.fix, fun id ob ha ho => Ob.rep_pres hp rfl rfl rfl (hM.hds id (hlv id ⟨ha, ob, ho⟩)) (fun _ _ => rfl) ob (hM.obs id ob ha (by rw [← he id (hA id ha)]; exact ho)),
    fun id hl => hM.nodup id (hlv id hl), fun i j hi hj => hM.disj i j (hlv i hi) (hlv j hj), fun id hl => hM.lo id (hlv id hl), fun id hl => hM.hds id (hlv id hl)⟩, hp⟩

/-- One operation more. -/
theorem inv_step (hF : Facts0 P nt ops s av) (hd : DrawOK ops) {listed : Array Bool} {m m' : Nat} {G G' : Gh} {a : Act} {w w' : World} (hI : Inv w0 nt ops s av listed m G a w) {j : Nat} {o : Oper} (ho : ops[j]? = some o) (hj : j ∈ Region.ready .any ops listed)
    (hph : Phase ops (listed.setIfInBounds j true) m') (hM : Mem w0 (s m').objs G' w') (hp : Pres (s m).objs G w (s m').objs G' w') {v : Value} (hv : (av j).rep (s m').objs G' w' v) (hA : ∀ x, G'.A x → G.A x ∨ (x < (s 0).next ∨ ∃ i, inS (listed.setIfInBounds j true) i ∧ (s i).next ≤ x ∧ x < (s (i + 1)).next)) :
    Inv w0 nt ops s av (listed.setIfInBounds j true) m' G' (a.put o.dst v) w' := by
  have hjn : j < ops.size := (Array.getElem?_eq_some_iff.1 ho).1
  have hjl : j < listed.size := by rw [hI.size]; exact hjn
  obtain ⟨_, o', ho', hall⟩ := mem_ready.1 hj
  rw [ho] at ho'
  injection ho' with ho'
  subst ho'
  have hfj := hF.fact j o ho
  have slot : ∀ {k : Nat}, o.dst ≠ some k → (a.put o.dst v).tmps.getD k undef = a.tmps.getD k undef := by
    intro k hk
    cases hdo : o.dst with
    | none => rfl
    | some d => exact getD_put_other (fun e => hk (by rw [hdo, e]))
  refine ⟨by simp [hI.size], fun i x e hi hx he hb => ?_, hph, hM, fun x hx => ?_, fun i x k hi hx hk => ?_, fun k u hu hno => ?_, ?_, ?_⟩
  · rcases inS_set hi with hi | rfl
    · exact inS_set_mono (hI.closed i x e hi hx he hb)
    · rw [ho] at hx
      injection hx with hx
      subst hx
      exact inS_set_mono (hall e he hb)
  · rcases hA x hx with h | h
    · rcases hI.laid x h with h | ⟨i, h1, h2⟩
      · exact .inl h
      · exact .inr ⟨i, inS_set_mono h1, h2⟩
    · exact h
  · by_cases e : i = j
    · subst e
      rw [ho] at hx
      injection hx with hx
      subst hx
      rw [hk, getD_put_same (by rw [hI.tmps]; exact hfj.dst k hk)]
      exact hv
    · have hi' : inS listed i := (inS_set hi).resolve_right e
      have hne : o.dst ≠ some k := by
        intro hok
        rcases Nat.lt_or_ge i j with h | h
        · exact (hd.pair j i x o h hx ho).1 k hk hok
        · exact (hd.pair i j o x (by omega) ho hx).1 k hok hk
      rw [slot hne]
      exact (av i).rep_pres hp _ (hI.done i x k hi' hx hk)
  · have hne : o.dst ≠ some k := hno j o (getD_set_same hjl) ho
    rw [slot hne]
    exact u.rep_pres hp _ (hI.kept k u hu (fun i x hi hx => hno i x (inS_set_mono hi) hx))
  · rw [← hI.tmps]
    cases o.dst <;> simp [Act.put]
  · rw [← hI.defers]
    cases o.dst <;> rfl

theorem conflict_me {x y : Oper} (h : (clsO ops x = 2 ∧ clsO ops y ≠ 0) ∨ (clsO ops y = 2 ∧ clsO ops x ≠ 0)) : conflict ops x y = true := by
  have e : ∀ {n : Nat}, n ≠ 0 → Nat.beq n 0 = false := fun {n} hn => by cases n with | zero => omega | succ n => rfl
  unfold conflict
  rcases h with ⟨h1, h2⟩ | ⟨h1, h2⟩
  · simp [h1, e h2]
  · cases hb : Nat.beq (clsO ops x) 2 with
    | true => have := e (n := clsO ops y) (by omega); simp [this]
    | false => simp [h1, e h2]

theorem range_of : ∀ (n x : Nat), (s 0).next ≤ x → x < (s n).next → ∃ i, i < n ∧ (s i).next ≤ x ∧ x < (s (i + 1)).next := by
  intro n
  induction n with
  | zero => intro x h1 h2; omega
  | succ n ih =>
    intro x h1 h2
    rcases Nat.lt_or_ge x (s n).next with h | h
    · obtain ⟨i, h3, h4⟩ := ih x h1 h
      exact ⟨i, by omega, h4⟩
    · exact ⟨n, by omega, h, h2⟩

theorem draw_any (hF : Facts0 P nt ops s av) (hd : DrawOK ops) {Q : Exit → Act → World → Prop} (hQ : ∀ G a w, Rel w0 (s ops.size) G nt a w → Q .normal a w) :
    ∀ (fuel : Nat) (listed : Array Bool) (m : Nat) (G : Gh) (a : Act) (w : World), (List.range ops.size).countP (fun i => !listed.getD i false) ≤ fuel → Inv w0 nt ops s av listed m G a w → wpAny P .any ops Q fuel listed a w := by
  have fin : ∀ (listed : Array Bool) (m : Nat) (G : Gh) (a : Act) (w : World), Inv w0 nt ops s av listed m G a w → Region.ready .any ops listed = [] → Q .normal a w := by
    intro listed m G a w hI hr
    have all : ∀ i, i < ops.size → inS listed i := by
      intro i
      induction i using Nat.strongRecOn with
      | ind i ih =>
        intro hi
        by_cases h : inS listed i
        · exact h
        · exfalso
          have : i ∈ Region.ready .any ops listed := mem_ready.2 ⟨by
            unfold inS at h
            rw [Array.getD_eq_getD_getElem?] at h ⊢
            rw [Array.getElem?_eq_getElem (by rw [hI.size]; exact hi)] at h ⊢
            simpa using h, ops[i], by simp, fun e he hb => by
              have hlt := hd.back i ops[i] e (by simp) he hb
              exact ih e.on hlt (by omega)⟩
          rw [hr] at this
          cases this
    have hm : m = ops.size := by
      rcases Nat.lt_or_ge m ops.size with h | h
      · exact absurd (all m h) (hI.ph.new ops[m] (by simp)).2
      · have := hI.ph.le; omega
    have hm' := hm
    subst hm
    refine hQ G a w ⟨hI.mem, fun k u hu => ?_, fun k u hu => ?_, hI.tmps, fun j hj => ?_, wf_all hF (Nat.le_refl _), hI.defers⟩
    · rcases env_at hF (Nat.le_refl _) k u hu with ⟨i, x, h1, h2, h3, rfl⟩ | ⟨h1, h2⟩
      · exact hI.done i x k (all i h1) h2 h3
      · exact hI.kept k u h2 (fun i x hi hx => h1 i x (Array.getElem?_eq_some_iff.1 hx).1 hx)
    · rcases env_at hF (Nat.le_refl _) k u hu with ⟨i, x, h1, h2, h3, rfl⟩ | ⟨h1, h2⟩
      · exact .inl ((hF.fact i x h2).dst k h3)
      · exact hF.lt k u h2
    · rcases hI.laid j hj with h | ⟨i, h1, h2, h3⟩
      · exact Nat.lt_of_lt_of_le h (next_mono hF (Nat.zero_le _) (Nat.le_refl _))
      · have hi := inS_lt h1
        rw [hI.size] at hi
        exact Nat.lt_of_lt_of_le h3 (next_mono hF (by omega) (Nat.le_refl _))
  intro fuel
  induction fuel with
  | zero =>
    intro listed m G a w hc hI
    have hr : Region.ready .any ops listed = [] := by
      refine List.eq_nil_iff_forall_not_mem.2 (fun j hj => ?_)
      obtain ⟨h1, o, h2, _⟩ := mem_ready.1 hj
      have hjn : j < ops.size := (Array.getElem?_eq_some_iff.1 h2).1
      have h0 : (List.range ops.size).countP (fun i => !listed.getD i false) = 0 := by omega
      have := List.countP_eq_zero.1 h0 j (by simp [hjn])
      rw [Array.getD_eq_getD_getElem?] at h1 this
      rw [Array.getElem?_eq_getElem (by rw [hI.size]; exact hjn)] at h1 this
      simp at h1 this
      rw [h1] at this
      cases this
    exact ⟨hr, fin listed m G a w hI hr⟩
  | succ fuel ih =>
    intro listed m G a w hc hI
    refine ⟨fin listed m G a w hI, fun j hj => ?_⟩
    obtain ⟨hun, o, ho, _⟩ := mem_ready.1 hj
    have hjn : j < ops.size := (Array.getElem?_eq_some_iff.1 ho).1
    have hjl : j < listed.size := by rw [hI.size]; exact hjn
    have hnj : ¬ inS listed j := by
      unfold inS
      rw [Array.getD_eq_getD_getElem?] at hun ⊢
      rw [Array.getElem?_eq_getElem hjl] at hun ⊢
      simp at hun ⊢
      exact hun
    have hcnt : (List.range ops.size).countP (fun i => !(listed.setIfInBounds j true).getD i false) ≤ fuel := by
      have := countP_lt (p := fun i => !listed.getD i false) (q := fun i => !(listed.setIfInBounds j true).getD i false) (l := List.range ops.size) (x := j) (fun y _ hy => by
        by_cases h : inS listed y
        · have := inS_set_mono (i := j) h
          unfold inS at this
          rw [this] at hy
          cases hy
        · unfold inS at h
          cases hb : listed.getD y false with
          | true => exact absurd hb h
          | false => rfl) (by simp [hjn]) (by unfold inS at hnj; cases hb : listed.getD j false with | true => exact absurd hb hnj | false => rfl)
          (by have := getD_set_same hjl; unfold inS at this; simp [this])
      omega
    have hf := hF.fact j o ho
    have hsl := slots_at hF hd hI ho hj
    have same : clsO ops o ≠ 2 → Phase ops (listed.setIfInBounds j true) m := fun h2 => ⟨hI.ph.le, fun i x hi hx hcx => inS_set_mono (hI.ph.old i x hi hx hcx), fun x hx => by
      obtain ⟨h3, h4⟩ := hI.ph.new x hx
      refine ⟨h3, fun h5 => ?_⟩
      rcases inS_set h5 with h5 | rfl
      · exact h4 h5
      · rw [ho] at hx; injection hx with hx; subst hx; exact h2 h3⟩
    rcases clsO_le ops o with h0 | h1 | h2
    · obtain ⟨_, _, hg⟩ := hf.a h0
      refine hg _ G w a _ Q hsl (fun u hu => ih _ m G _ w hcnt (inv_step hF hd hI ho hj (same (by omega)) hI.mem Pres.refl hu (fun x hx => .inl hx)))
    · have hjm : j < m := by
        rcases Nat.lt_or_ge j m with h | h
        · exact h
        · exfalso
          have hmn : m < ops.size := by omega
          obtain ⟨h3, h4⟩ := hI.ph.new ops[m] (by simp)
          have hne : m ≠ j := fun e => by
            subst e
            rw [Array.getElem?_eq_getElem hmn] at ho
            injection ho with ho
            rw [ho] at h3
            omega
          exact h4 (ready_reach hI.closed hj ((hd.pair j m ops[m] o (by omega) (by simp) ho).2 (conflict_me (.inl ⟨h3, by omega⟩))))
      have hext := objs_ext hF (i := j + 1) (j := m) (by omega) hI.ph.le (fun k x hk1 hk2 hx hcx => by
        have hk := hI.ph.old k x hk2 hx hcx
        exact hnj (reach_in hI.closed ((hd.pair k j o x (by omega) ho hx).2 (conflict_me (.inr ⟨hcx, by omega⟩))) hk))
      refine hf.b h1 w0 (s m).objs G w a _ Q (fun id ob hob => ?_) hI.mem hsl (fun x hx1 hx2 hA => ?_) (fun G' u w' hM' hp hu hA => ih _ m G' _ w' hcnt (inv_step hF hd hI ho hj (same (by omega)) hM' hp hu (fun x hx => (hA x hx).imp_right (fun h => .inr ⟨j, getD_set_same hjl, h⟩))))
      · rw [hext id (hf.wf id ob hob)]; exact hob
      · rcases hI.laid x hA with h | ⟨i, h3, h4, h5⟩
        · have := next_mono hF (Nat.zero_le j) (Nat.le_of_lt hjn)
          omega
        · have hil := inS_lt h3
          rw [hI.size] at hil
          rcases Nat.lt_trichotomy i j with h | h | h
          · have := next_mono hF (show i + 1 ≤ j from h) (Nat.le_of_lt hjn)
            omega
          · subst h; exact hnj h3
          · have := next_mono hF (show j + 1 ≤ i from h) (Nat.le_of_lt hil)
            omega
    · have hjm : j = m := by
        rcases Nat.lt_trichotomy j m with h | h | h
        · exact absurd (hI.ph.old j o h ho h2) hnj
        · exact h
        · exfalso
          have hmn : m < ops.size := by omega
          obtain ⟨h3, h4⟩ := hI.ph.new ops[m] (by simp)
          exact h4 (ready_reach hI.closed hj ((hd.pair j m ops[m] o h (by simp) ho).2 (conflict_me (.inl ⟨h3, by omega⟩))))
      subst hjm
      have hlt : ∀ x, G.A x → x < (s j).next := by
        intro x hA
        rcases hI.laid x hA with h | ⟨i, h3, h4, h5⟩
        · exact Nat.lt_of_lt_of_le h (next_mono hF (Nat.zero_le j) (Nat.le_of_lt hjn))
        · have hil := inS_lt h3
          rw [hI.size] at hil
          rcases Nat.lt_trichotomy i j with h | h | h
          · exact Nat.lt_of_lt_of_le h5 (next_mono hF h (Nat.le_of_lt hjn))
          · subst h; exact absurd h3 hnj
          · exfalso
            have hx : ops[i]? = some ops[i] := by simp
            by_cases hci : clsO ops (ops[i]) = 0
            · have := ((hF.fact i _ hx).a hci).2.1
              omega
            · exact hnj (reach_in hI.closed ((hd.pair i j o ops[i] h ho hx).2 (conflict_me (.inl ⟨h2, hci⟩))) h3)
      obtain ⟨m', hm1, hm2, hm3, hm4⟩ := phase_next (ops.size - (j + 1)) ops.size (j + 1) rfl (by omega) (fun i => match ops[i]? with | some x => Nat.beq (clsO ops x) 2 | none => false)
      have hno : ∀ (k : Nat) x, j + 1 ≤ k → k < m' → ops[k]? = some x → clsO ops x ≠ 2 := by
        intro k x h1 h2 h3 h4
        have := hm3 k h1 h2
        simp [h3, h4] at this
      have hext := objs_ext hF (i := j + 1) (j := m') hm1 hm2 hno
      have hph : Phase ops (listed.setIfInBounds j true) m' := by
        refine ⟨hm2, fun i x hi hx hcx => ?_, fun x hx => ?_⟩
        · rcases Nat.lt_trichotomy i j with h | h | h
          · exact inS_set_mono (hI.ph.old i x h hx hcx)
          · subst h; exact getD_set_same hjl
          · exact absurd hcx (hno i x h hi hx)
        · have hlt' : m' < ops.size := (Array.getElem?_eq_some_iff.1 hx).1
          have hc2 := hm4 hlt'
          simp only [hx] at hc2
          have hc2 := Nat.eq_of_beq_eq_true hc2
          refine ⟨hc2, fun h => ?_⟩
          rcases inS_set h with h | rfl
          · exact hnj (reach_in hI.closed ((hd.pair m' j o x (by omega) ho hx).2 (conflict_me (.inl ⟨h2, by omega⟩))) h)
          · omega
      refine hf.e h2 w0 G w a _ Q hI.mem hsl hlt (fun G' u w' hM' hp hu hA => ?_)
      obtain ⟨hM2, hp2⟩ := mem_later hM' hA hext
      refine ih _ m' G' _ w' hcnt (inv_step hF hd hI ho hj hph hM2 (hp.trans hp2) ((av j).rep_pres hp2 _ hu) (fun x hx => ?_))
      right
      by_cases h0 : x < (s 0).next
      · exact .inl h0
      · obtain ⟨i, h3, h4, h5⟩ := range_of (s := s) (j + 1) x (by omega) (hA x hx)
        refine .inr ⟨i, ?_, h4, h5⟩
        rcases Nat.lt_or_ge i j with h | h
        · have hx' : ops[i]? = some ops[i] := by simp
          refine inS_set_mono (ready_reach hI.closed hj ((hd.pair j i ops[i] o h hx' ho).2 (conflict_me (.inr ⟨h2, fun hci => ?_⟩))))
          have := ((hF.fact i _ hx').a hci).2.1
          omega
        · have : i = j := by omega
          subst this
          exact getD_set_same hjl
/-- THE DRAWN REGION. -/
theorem draw_wpAny (hE : TOk P E) (nt : Nat) (w0 : Base) (ops : Array Oper) (K : St → Prop) (σ : St) (G : Gh) (a : Act) (w : World) (hok : drawOK ops = true)
    (h : evOps P E nt false ops ops.toList K σ) (hR : Rel w0 σ G nt a w) : wpAny P .any ops (Post w0 nt fun e σ' => e = .normal ∧ K σ') ops.size (Array.replicate ops.size false) a { w with drawn := w.drawn + 1 } := by
  obtain ⟨s, av, h1, h2, h3⟩ := evOps_trace hE ops.toList 0 σ (fun i o hi => by simpa using hi) hR.wf h
  have hF : Facts0 P nt ops s av := ⟨fun i o ho => by have := h2 i o (by simpa using ho); simpa using this, by rw [h1]; exact hR.wf, by rw [h1]; exact hR.lt⟩
  have hd := drawOK_spec hok
  simp only [Array.length_toList, Nat.zero_add] at h3
  have no : ∀ i, ¬ inS (Array.replicate ops.size false) i := fun i h => by
    unfold inS at h
    rw [Array.getD_eq_getD_getElem?, Array.getElem?_replicate] at h
    split at h <;> simp at h
  obtain ⟨m, _, hm2, hm3, hm4⟩ := phase_next (ops.size - 0) ops.size 0 rfl (by omega) (fun i => match ops[i]? with | some x => Nat.beq (clsO ops x) 2 | none => false)
  have hno : ∀ (k : Nat) x, 0 ≤ k → k < m → ops[k]? = some x → clsO ops x ≠ 2 := by
    intro k x h1 h2 h3 h4
    have := hm3 k h1 h2
    simp [h3, h4] at this
  have hM0 : Mem w0 σ.objs G { w with drawn := w.drawn + 1 } ∧ Pres σ.objs G w σ.objs G { w with drawn := w.drawn + 1 } :=
    hR.mem.step (fun id => Lv σ.objs G id) (fun _ => False) (fun id h => ⟨h, rfl⟩) ⟨rfl, rfl⟩ (fun id h => ⟨h, rfl, rfl, rfl⟩) (fun id h => .inl h) rfl rfl rfl (Nat.le_refl _) (fun b _ _ => rfl)
      (fun _ h => h.elim) (fun _ _ h => h.elim) (fun _ h => h.elim) (fun _ h => h.elim) (fun _ _ h => h.elim)
  have hlt : ∀ j, G.A j → j < (s 0).next := fun j hj => by rw [h1]; exact hR.fresh j hj
  obtain ⟨hM1, hp1⟩ := mem_later hM0.1 hR.fresh (by
    have := objs_ext hF (Nat.zero_le m) hm2 hno
    rw [h1] at this
    exact this)
  have hp := hM0.2.trans hp1
  refine draw_any (w0 := w0) hF hd (fun G' a' w' hR' => ⟨.normal, s ops.size, G', rfl, ⟨rfl, h3⟩, hR'⟩) ops.size _ m G a _ ?_ ⟨by simp, fun i o e hi => absurd hi (no i), ⟨hm2, fun i o hi ho hc => absurd hc (hno i o (Nat.zero_le _) hi ho), fun o ho => ⟨?_, no m⟩⟩, hM1, fun j hj => .inl (hlt j hj), fun i o k hi => absurd hi (no i), fun k u hu _ => ?_, hR.size, hR.defers⟩
  · exact Nat.le_trans List.countP_le_length (by simp)
  · have := hm4 (Array.getElem?_eq_some_iff.1 ho).1
    simp only [ho] at this
    exact Nat.eq_of_beq_eq_true this
  · rw [h1] at hu
    exact u.rep_pres hp _ (hR.env k u hu)
theorem draw_sound (hE : TOk P E) (hm : P.follows .mixedOrders = true) (nt : Nat) (w0 : Base) (id : Nat) (ops : Array Oper) (K : St → Prop) (σ : St) (G : Gh) (a : Act) (w : World) (hok : drawOK ops = true)
    (h : evOps P E nt false ops ops.toList K σ) (hR : Rel w0 σ G nt a w) : (Code.region id ops true).wp P (Post w0 nt fun e σ' => e = .normal ∧ K σ') a w :=
  wp_region_any hm (draw_wpAny hE nt w0 ops K σ G a w hok h hR)

end
end Go.Vm

namespace Go.Vm
open Go.RowKit

section
variable {P : Program} {E : Nat → Option TI} {nt : Nat} {w0 : Base} {ops : Array Oper}

def ovr (O : List (Nat × Ob)) (id : Nat) (c : Ob) : List (Nat × Ob) := (id, c) :: O
theorem ovr_same (O : List (Nat × Ob)) (id : Nat) (c : Ob) : get (ovr O id c) id = some c := get_cons_same _ _ _
theorem ovr_other (O : List (Nat × Ob)) (id : Nat) (c : Ob) {j : Nat} (h : j ≠ id) : get (ovr O id c) j = get O j := get_cons_other _ _ _ _ h
theorem ovr_eq {O : List (Nat × Ob)} {id : Nat} {c : Ob} (h : get O id = some c) (j : Nat) : get (ovr O id c) j = get O j := by
  by_cases e : j = id
  · subst e; rw [ovr_same, h]
  · exact ovr_other O id c e

theorem clsO_val {o : Oper} (h : isVal o.op = true) : clsO ops o = 1 := by
  obtain ⟨dst, op, type, pos, after, guard⟩ := o
  cases op with
  | call c =>
    obtain ⟨cal, args, argTypes⟩ := c
    cases cal with
    | value f =>
      unfold clsO
      split
      · rfl
      · rfl
    | builtin b => cases h
    | invoke r m => cases h
  | _ => cases h

/-- What an operation does that looks at nothing of the box. -/
def GoH (P : Program) (nt : Nat) (ops : Array Oper) (i : Nat) (o : Oper) (id : Nat) (σ : St) (v : AV) (σ' : St) : Prop :=
  ∀ (w0 : Base) O G w a (Kc : Act → World → Prop) (Q : Exit → Act → World → Prop), (∀ j ob, j ≠ id → get σ'.objs j = some ob → get O j = some ob) → Mem w0 O G w → Slots nt ops o σ.env O G w a →
    (∀ j, σ.next ≤ j → j < σ'.next → ¬ G.A j) →
    (∀ G' u w', Mem w0 O G' w' → Pres O G w O G' w' → v.rep O G' w' u → (∀ j, G'.A j → G.A j ∨ (σ.next ≤ j ∧ j < σ'.next)) → Kc (a.put o.dst u) w') → wpOp P ops Q i Kc a w
/-- What a call with a pointer to the box does. -/
def GoC (P : Program) (nt : Nat) (ops : Array Oper) (i : Nat) (o : Oper) (id : Nat) (σ : St) (v : AV) (σ' : St) : Prop :=
  ∀ (w0 : Base) O O' G w a (Kc : Act → World → Prop) (Q : Exit → Act → World → Prop), (∀ j ob, j ≠ id → get σ'.objs j = some ob → get O j = some ob) → get O id = get σ.objs id → (∀ j, j ≠ id → get O' j = get O j) → get O' id = get σ'.objs id →
    Mem w0 O G w → Slots nt ops o σ.env O G w a → (∀ j, σ.next ≤ j → j < σ'.next → ¬ G.A j) →
    (∀ G' u w', Mem w0 O' G' w' → Pres O G w O' G' w' → v.rep O' G' w' u → (∀ j, G'.A j → G.A j ∨ (σ.next ≤ j ∧ j < σ'.next)) → Kc (a.put o.dst u) w') → wpOp P ops Q i Kc a w

structure FactD (P : Program) (nt : Nat) (ops : Array Oper) (i : Nat) (o : Oper) (id : Nat) (σ : St) (v : AV) (σ' : St) : Prop where
  op : ops[i]? = some o
  dst : ∀ d, o.dst = some d → d < nt
  next : σ.next ≤ σ'.next
  wf : σ'.wf
  env : ∀ k u, get σ'.env k = some u → (o.dst = some k ∧ u = v) ∨ (o.dst ≠ some k ∧ get σ.env k = some u)
  has : (∃ c, get σ.objs id = some c) → ∃ c, get σ'.objs id = some c
  ext : clsO ops o ≠ 2 → ∀ j, j < σ.next → j ≠ id → get σ'.objs j = get σ.objs j
  keep : isVal o.op = false → get σ'.objs id = get σ.objs id
  a : clsO ops o = 0 → σ'.next = σ.next ∧ GoA P nt ops i o σ v
  b : clsO ops o = 1 → (get σ'.objs id = get σ.objs id ∧ GoH P nt ops i o id σ v σ') ∨ (isVal o.op = true ∧ GoC P nt ops i o id σ v σ')
  e : clsO ops o = 2 → GoE P nt ops i o σ v σ'

theorem wf_del {σ : St} (hw : σ.wf) (id : Nat) : St.wf ⟨σ.env, del σ.objs id, σ.next⟩ := fun j o ho => by
  by_cases e : j = id
  · subst e; simp only [get_del_same] at ho; cases ho
  · simp only [get_del_other _ _ _ e] at ho; exact hw j o ho

theorem hidO_fact (hE : TOk P E) {i id : Nat} {o : Oper} (hi : ops[i]? = some o) {σ : St} (hw : σ.wf) (hd : dstOk nt o.dst = true) (hg : o.guard = none) (h2 : clsO ops o ≠ 2) {K : AV → St → Prop} (h : hidO P E ops id o σ K) :
    ∃ av σ', K av σ' ∧ FactD P nt ops i o id σ av (σ'.put o.dst av) := by
  obtain ⟨ob, eob, h⟩ := need_some h
  have hid := hw id ob eob
  obtain ⟨av, σ1, hk, hf⟩ := fact_run (nt := nt) (τ := ⟨σ.env, del σ.objs id, σ.next⟩) hE hi (wf_del hw id) hd (fun _ _ h => h) rfl rfl (fun O G w a _ => by simp [Region.wanted, hg]) h
  obtain ⟨p1, p2, p3⟩ := put_st σ1 o.dst av
  obtain ⟨q1, q2, q3⟩ := put_st ⟨σ1.env, (id, ob) :: σ1.objs, σ1.next⟩ o.dst av
  have hnone : get σ1.objs id = none := by
    have := hf.ext h2 id hid
    rw [p1] at this
    rw [this]
    exact get_del_same _ _
  have henv : (St.put ⟨σ1.env, (id, ob) :: σ1.objs, σ1.next⟩ o.dst av).env = (σ1.put o.dst av).env := by cases o.dst <;> rfl
  have hsub : ∀ {O : List (Nat × Ob)}, (∀ j ob', j ≠ id → get (St.put ⟨σ1.env, (id, ob) :: σ1.objs, σ1.next⟩ o.dst av).objs j = some ob' → get O j = some ob') → ∀ j ob', get (σ1.put o.dst av).objs j = some ob' → get O j = some ob' := fun {O} hs j ob' hj => by
    rw [p1] at hj
    have hne : j ≠ id := fun e => by subst e; rw [hnone] at hj; cases hj
    exact hs j ob' hne (by rw [q1]; rw [← hj]; exact get_cons_other _ _ _ _ hne)
  have hn1 := hf.next
  rw [p2] at hn1
  refine ⟨av, _, hk, hi, hf.dst, by rw [q2]; exact hn1, q3 (fun j o' ho' => ?_), fun k u hu => hf.env k u (by rw [← henv]; exact hu), fun _ => ⟨ob, by rw [q1]; exact get_cons_same _ _ _⟩, fun _ j hj hne => ?_, fun _ => ?_, fun hc => ?_, fun hc => .inl ⟨?_, ?_⟩, fun hc => absurd hc h2⟩
  · by_cases e : j = id
    · subst e; exact Nat.lt_of_lt_of_le hid hn1
    · have hw1 := hf.wf
      have h3 : get σ1.objs j = some o' := by rw [← ho']; exact (get_cons_other _ _ _ _ e).symm
      have := hw1 j o' (by rw [p1]; exact h3)
      rw [p2] at this
      exact this
  · rw [q1]
    have h3 := hf.ext h2 j hj
    rw [p1] at h3
    exact (get_cons_other _ _ _ _ hne).trans (h3.trans (get_del_other _ _ _ hne))
  · rw [q1, eob]; exact get_cons_same _ _ _
  · obtain ⟨_, h4, h5⟩ := hf.a hc
    rw [p2] at h4
    exact ⟨by rw [q2]; exact h4, h5⟩
  · rw [q1, eob]; exact get_cons_same _ _ _
  · intro w0 O G w a Kc Q hs hM hsl hfr hK
    rw [q2] at hfr hK
    refine hf.b hc w0 O G w a Kc Q (hsub hs) hM hsl (by rw [p2]; exact hfr) (by rw [p2]; exact hK)

theorem curO_fact (_ : TOk P E) {i id : Nat} {o : Oper} (hi : ops[i]? = some o) {σ : St} (hw : σ.wf) (hd : dstOk nt o.dst = true) (hg : o.guard = none) (hv : isVal o.op = true) {K : AV → St → Prop} (h : opCur P (val σ.env) o.op id σ K) :
    ∃ av σ', K av σ' ∧ FactD P nt ops i o id σ av (σ'.put o.dst av) := by
  have hcl := clsO_val (ops := ops) hv
  obtain ⟨dst, op, type, pos, after, guard⟩ := o
  simp only at hg hv h hd hcl ⊢
  subst hg
  cases op <;> try (cases hv)
  rename_i c
  obtain ⟨cal, args, argTypes⟩ := c
  cases cal <;> try (cases hv)
  rename_i f
  obtain ⟨args⟩ := args
  simp only [opCur] at h
  have h' := need_some h; clear h
  obtain ⟨vf, ef, h⟩ := h'
  split at h
  case h_2 => exact h.elim
  rename_i fid
  split at h
  case h_2 => exact h.elim
  rename_i x rest
  have h' := need_some h; clear h
  obtain ⟨vx, ex, h⟩ := h'
  split at h
  case h_2 => exact h.elim
  rename_i i0
  rcases scase_out h with ⟨hb, h⟩ | ⟨_, h⟩
  case inr => exact h.elim
  have ei := Nat.eq_of_beq_eq_true hb
  subst ei
  have h' := need_some h; clear h
  obtain ⟨avs, eavs, h⟩ := h'
  have h' := need_some h; clear h
  obtain ⟨ob, eob, h⟩ := h'
  split at h
  case h_2 => exact h.elim
  rename_i ds
  have h' := need_some h; clear h
  obtain ⟨cs, ecs, h⟩ := h'
  have h' := need_some h; clear h
  obtain ⟨as, eas, cs', rs, hc, h⟩ := h'
  obtain ⟨hent, hc⟩ := hc
  have hid := hw i0 _ eob
  have hwf1 : St.wf ⟨σ.env, Vm.put σ.objs i0 (.box (cs'.map ancC)), σ.next⟩ := wf_put hw hid
  have hst := impR_st ⟨σ.env, Vm.put σ.objs i0 (.box (cs'.map ancC)), σ.next⟩ rs
  have hext := hst.1
  have hwf2 := hst.2 hwf1
  obtain ⟨q1, q2, q3⟩ := put_st ⟨σ.env, (impR ⟨σ.env, Vm.put σ.objs i0 (.box (cs'.map ancC)), σ.next⟩ rs).2.objs, (impR ⟨σ.env, Vm.put σ.objs i0 (.box (cs'.map ancC)), σ.next⟩ rs).2.next⟩ dst (impR ⟨σ.env, Vm.put σ.objs i0 (.box (cs'.map ancC)), σ.next⟩ rs).1
  have hbox : get (impR ⟨σ.env, Vm.put σ.objs i0 (.box (cs'.map ancC)), σ.next⟩ rs).2.objs i0 = some (.box (cs'.map ancC)) := by rw [hext.objs i0 hid]; exact get_put_same _ _ _
  refine ⟨_, _, h, hi, fun d e => ?_, by rw [q2]; exact hext.next, q3 (fun j ob hob => hwf2 j ob hob), fun k u hu => ?_, fun _ => ⟨_, by rw [q1]; exact hbox⟩, fun _ j hj hne => ?_, (fun hh => by cases hh), (fun hc0 => by rw [hcl] at hc0; cases hc0), fun _ => .inr ⟨rfl, ?_⟩, (fun hc0 => by rw [hcl] at hc0; cases hc0)⟩
  · have e' : dst = some d := e
    rw [e'] at hd
    have : d + 1 ≤ nt := by simpa [dstOk, Nat.blt] using hd
    exact this
  · exact put_env (σ := σ) (τ := σ) (σ' := ⟨σ.env, (impR ⟨σ.env, Vm.put σ.objs i0 (.box (cs'.map ancC)), σ.next⟩ rs).2.objs, (impR ⟨σ.env, Vm.put σ.objs i0 (.box (cs'.map ancC)), σ.next⟩ rs).2.next⟩) (o := ⟨dst, .call { callee := .value f, args := ⟨x :: rest⟩, argTypes }, type, pos, after, none⟩) (fun _ _ h => h) rfl k u hu
  · rw [q1]
    show get (impR ⟨σ.env, Vm.put σ.objs i0 (.box (cs'.map ancC)), σ.next⟩ rs).2.objs j = _
    rw [hext.objs j hj]
    exact get_put_other _ _ _ _ hne
  · intro w0 O O' G w a Kc Q hs hO1 hO2 hO3 hM hsl hfr hK
    rw [q2] at hfr hK
    rw [q1] at hs hO3
    simp only at hs hO3
    rw [hbox] at hO3
    rw [eob] at hO1
    have hops := Slots.opsRep hsl
    have hfo : f ∈ (Op.call { callee := .value f, args := ⟨x :: rest⟩, argTypes }).operands := by simp [Op.operands, Call.operands]
    obtain ⟨hfv, _⟩ := hops f hfo _ ef
    have hxr := hops x (by simp [Op.operands, Call.operands]) _ ex
    simp only [AV.rep] at hxr
    obtain ⟨hA, ad, hφ, hxv⟩ := hxr
    obtain ⟨g, us, e, b1, b2, b3, b4, b5⟩ := hM.obs i0 _ hA hO1
    have had : a.eval x = .pointer (some ⟨g, 0, none⟩) := by
      rw [hφ] at b1
      injection b1 with b1
      injection b1 with b1
      subst b1
      rw [hxv]
      have : (⟨g, 0, none⟩ : Addr).add 0 = ⟨g, 0, none⟩ := by unfold Addr.add; simp
      rw [this]
    obtain ⟨F, hF, himm, hold0⟩ := cellsT_rep ecs b3
    have hlv : Lv O G i0 := ⟨hA, _, hO1⟩
    have hgh : g ∈ G.h i0 := by rw [b5]; simp
    have hgF : g ∉ F := fun hb => himm i0 hlv g hb hgh
    have hargs := vals_rep (O := O) (G := G) (w := w) (a := a) eavs (fun y hy => hops y (by simp only [Op.operands, Call.operands]; simp [hy]))
    have hsub : ∀ j ob, j ≠ i0 → get σ.objs j = some ob → get O j = some ob := fun j ob hne hj => hs j ob hne (by rw [hext.objs j (hw j ob hj)]; exact (get_put_other _ _ _ _ hne).trans hj)
    have hvs := argWs_sound hM hA hO1 hgh (argW_mono eob hsub avs eas) hargs
    unfold wpOp
    simp only [hi, Region.wanted, if_true]
    refine .inl ?_
    have hrun := run_call (P := P) (dst := dst) (type := type) (pos := pos) (after := after) (guard := none) hent (fo := f) (args := ⟨x :: rest⟩) (argTypes := argTypes) (a := a) (caps := []) (by simpa using hfv) w
    unfold Oper.wp
    rw [hrun]
    show Calls P fid _ w _
    rw [List.append_nil, List.map_cons, had]
    refine (hc w g us e F _ b2 hF hgF hvs).mono fun ex w' hpost => ?_
    obtain ⟨out, F', us', Fc, v, rfl, hret, hout, hnd0, hfresh, ⟨e', hheap'⟩, hcs', hFc, hbel⟩ := hpost
    obtain ⟨l, imp⟩ := impR_sound hwf1 hout hret
    have hnx := imp.next
    have hlt : ∀ j, σ.next ≤ j → j < σ.next + l.length → ¬ G.A j := fun j h1 h2 => hfr j h1 (by rw [hnx]; exact h2)
    obtain ⟨hM', hp'⟩ := cur_step (O' := O') hM hA hO1 b1 b2 b4 b5 hF himm hold0 hnd0 hfresh hheap' hcs' hFc hbel imp hlt hO3 (fun j _ hne => hO2 j hne) (fun k hk => by
      have hne : σ.next + k ≠ i0 := by omega
      obtain ⟨o', ho'⟩ := imp.have_ k hk
      show get O' (σ.next + k) = get (impR ⟨σ.env, Vm.put σ.objs i0 (.box (cs'.map ancC)), σ.next⟩ rs).2.objs (σ.next + k)
      have ho2 : get (impR ⟨σ.env, Vm.put σ.objs i0 (.box (cs'.map ancC)), σ.next⟩ rs).2.objs (σ.next + k) = some o' := ho'
      rw [hO2 _ hne, ho2]
      exact hs _ _ hne ho2)
    refine hK _ v w' hM' hp' (imp.rep _ _ fun k hk => ?_) (fun j hj => ?_)
    · have hn := Gh.addL_new (G := G) (n := σ.next) hk
      exact ⟨.inr ⟨by show σ.next ≤ σ.next + k; omega, by show σ.next + k < σ.next + l.length; omega⟩, hn.1⟩
    · rcases hj with hj | hj
      · exact .inl hj
      · exact .inr ⟨hj.1, by rw [hnx]; exact hj.2⟩

theorem evOpsD_trace (hE : TOk P E) {id : Nat} {K : St → Prop} : ∀ (l : List Oper) (p : Nat) (σ : St), (∀ i o, l[i]? = some o → ops[p + i]? = some o) → σ.wf → evOpsD P E nt ops id l K σ →
    ∃ (s : Nat → St) (av : Nat → AV), s p = σ ∧ (∀ i o, l[i]? = some o → FactD P nt ops (p + i) o id (s (p + i)) (av (p + i)) (s (p + i + 1))) ∧ K (s (p + l.length))
  | [], p, σ, _, _, h => ⟨fun _ => σ, fun _ => .junk, rfl, by simp, h⟩
  | o :: rest, p, σ, hl, hw, h => by
    have hi : ops[p]? = some o := by simpa using hl 0 o (by simp)
    simp only [evOpsD, putK_eq] at h
    rcases scase_out h with ⟨hd0, h⟩ | ⟨_, h⟩
    case inr => exact h.elim
    simp only [Bool.and_eq_true] at hd0
    obtain ⟨hd, hgg⟩ := hd0
    have hg : o.guard = none := by unfold noG at hgg; split at hgg <;> first | assumption | cases hgg
    have next : ∀ {v : AV} {σ' : St}, FactD P nt ops p o id σ v σ' → evOpsD P E nt ops id rest K σ' → ∃ (s : Nat → St) (av : Nat → AV), s p = σ ∧ (∀ i q, (o :: rest)[i]? = some q → FactD P nt ops (p + i) q id (s (p + i)) (av (p + i)) (s (p + i + 1))) ∧ K (s (p + (o :: rest).length)) := by
      intro v σ' hf h
      obtain ⟨s, av, h1, h2, h3⟩ := evOpsD_trace hE rest (p + 1) σ' (fun i q hq => by
        have := hl (i + 1) q (by simpa using hq)
        rw [show p + 1 + i = p + (i + 1) by omega]; exact this) hf.wf h
      refine ⟨fun i => if i = p then σ else s i, fun i => if i = p then v else av i, by simp, fun i q hq => ?_, ?_⟩
      · cases i with
        | zero =>
          simp at hq
          subst hq
          simpa [h1] using hf
        | succ i =>
          have := h2 i q (by simpa using hq)
          rw [show p + 1 + i = p + (i + 1) by omega] at this
          have e1 : p + (i + 1) ≠ p := by omega
          have e2 : p + (i + 1) + 1 ≠ p := by omega
          simp only [e1, e2, if_false]
          exact this
      · have e1 : p + (rest.length + 1) ≠ p := by omega
        simp only [List.length_cons, e1, if_false]
        rw [show p + (rest.length + 1) = p + 1 + rest.length by omega]
        exact h3
    unfold evOpD at h
    split at h
    · rename_i hv
      rcases h with h | h
      · obtain ⟨av, σ', hk, hf⟩ := curO_fact (nt := nt) hE hi hw hd hg hv h
        exact next hf hk
      · obtain ⟨av, σ', hk, hf⟩ := hidO_fact (nt := nt) hE hi hw hd hg (by rw [clsO_val hv]; decide) h
        exact next hf hk
    · rename_i hv
      split at h
      · rename_i hb
        have hc2 := Nat.eq_of_beq_eq_true hb
        obtain ⟨av, σ', ⟨hkeep, hk⟩, hf⟩ := fact_run (nt := nt) hE hi hw hd (fun _ _ h => h) rfl rfl (fun O G w a _ => by simp [Region.wanted, hg]) h
        obtain ⟨p1, p2, p3⟩ := put_st σ' o.dst av
        exact next ⟨hf.op, hf.dst, hf.next, hf.wf, hf.env, fun ⟨c, hc⟩ => ⟨c, by rw [p1, hkeep]; exact hc⟩, fun hc => absurd hc2 hc, fun _ => by rw [p1]; exact hkeep, (fun hc => by omega), (fun hc => by omega), hf.e⟩ hk
      · rename_i hb
        obtain ⟨av, σ', hk, hf⟩ := hidO_fact (nt := nt) hE hi hw hd hg (fun e => by rw [e] at hb; cases hb) h
        exact next hf hk

/-! ### Any order -/
structure FactsD (P : Program) (nt : Nat) (ops : Array Oper) (id : Nat) (s : Nat → St) (av : Nat → AV) : Prop where
  fact : ∀ (i : Nat) o, ops[i]? = some o → FactD P nt ops i o id (s i) (av i) (s (i + 1))
  wf : (s 0).wf
  lt : ∀ k u, get (s 0).env k = some u → k < nt ∨ isFrm u = true
  box : ∃ c, get (s 0).objs id = some c

structure InvD (w0 : Base) (nt : Nat) (ops : Array Oper) (id : Nat) (s : Nat → St) (av : Nat → AV) (listed : Array Bool) (m : Nat) (c : Ob) (G : Gh) (a : Act) (w : World) : Prop where
  size : listed.size = ops.size
  closed : ∀ (i : Nat) o e, inS listed i → ops[i]? = some o → e ∈ o.after → Region.binds .any e = true → inS listed e.on
  ph : Phase ops listed m
  mem : Mem w0 (ovr (s m).objs id c) G w
  laid : ∀ j, G.A j → j < (s 0).next ∨ ∃ i, inS listed i ∧ (s i).next ≤ j ∧ j < (s (i + 1)).next
  done : ∀ (i : Nat) o k, inS listed i → ops[i]? = some o → o.dst = some k → (av i).rep (ovr (s m).objs id c) G w (a.tmps.getD k undef)
  kept : ∀ k u, get (s 0).env k = some u → (∀ (i : Nat) o, inS listed i → ops[i]? = some o → o.dst ≠ some k) → u.rep (ovr (s m).objs id c) G w (a.tmps.getD k undef)
  cur : ∃ q, q ≤ ops.size ∧ get (s q).objs id = some c ∧ (∀ (i : Nat) o, i < q → ops[i]? = some o → isVal o.op = true → inS listed i) ∧ ∀ (i : Nat) o, q ≤ i → ops[i]? = some o → isVal o.op = true → ¬ inS listed i
  tmps : a.tmps.size = nt
  defers : a.defers = []

variable {s : Nat → St} {av : Nat → AV} {id : Nat}

theorem next_monoD (hF : FactsD P nt ops id s av) : ∀ {i j : Nat}, i ≤ j → j ≤ ops.size → (s i).next ≤ (s j).next := by
  intro i j hij hj
  induction j with
  | zero => have : i = 0 := by omega
            subst this; exact Nat.le_refl _
  | succ j ih =>
    rcases Nat.lt_or_ge i (j + 1) with h | h
    · refine Nat.le_trans (ih (by omega) (by omega)) ?_
      exact (hF.fact j ops[j] (by simp)).next
    · have : i = j + 1 := by omega
      subst this; exact Nat.le_refl _
theorem wf_allD (hF : FactsD P nt ops id s av) {j : Nat} (hj : j ≤ ops.size) : (s j).wf := by
  cases j with
  | zero => exact hF.wf
  | succ j => exact (hF.fact j ops[j] (by simp)).wf
theorem has_box (hF : FactsD P nt ops id s av) : ∀ {j : Nat}, j ≤ ops.size → ∃ c, get (s j).objs id = some c := by
  intro j
  induction j with
  | zero => intro _; exact hF.box
  | succ j ih => intro hj; exact (hF.fact j ops[j] (by simp)).has (ih (by omega))
theorem objs_extD (hF : FactsD P nt ops id s av) : ∀ {i j : Nat}, i ≤ j → j ≤ ops.size → (∀ (k : Nat) o, i ≤ k → k < j → ops[k]? = some o → clsO ops o ≠ 2) → ∀ x, x < (s i).next → x ≠ id → get (s j).objs x = get (s i).objs x := by
  intro i j hij hj hno x hx hne
  induction j with
  | zero => have : i = 0 := by omega
            subst this; rfl
  | succ j ih =>
    rcases Nat.lt_or_ge i (j + 1) with h | h
    · have h1 := (hF.fact j ops[j] (by simp)).ext (hno j _ (by omega) (by omega) (by simp)) x (Nat.lt_of_lt_of_le hx (next_monoD hF (by omega) (by omega))) hne
      rw [h1]
      exact ih (by omega) (by omega) (fun k o a b c => hno k o a (by omega) c)
    · have : i = j + 1 := by omega
      subst this; rfl
/-- No call between: the box shows the same. -/
theorem box_const (hF : FactsD P nt ops id s av) : ∀ {i j : Nat}, i ≤ j → j ≤ ops.size → (∀ (k : Nat) o, i ≤ k → k < j → ops[k]? = some o → isVal o.op = false) → get (s j).objs id = get (s i).objs id := by
  intro i j hij hj hno
  induction j with
  | zero => have : i = 0 := by omega
            subst this; rfl
  | succ j ih =>
    rcases Nat.lt_or_ge i (j + 1) with h | h
    · rw [(hF.fact j ops[j] (by simp)).keep (hno j _ (by omega) (by omega) (by simp))]
      exact ih (by omega) (by omega) (fun k o a b c => hno k o a (by omega) c)
    · have : i = j + 1 := by omega
      subst this; rfl
theorem env_atD (hF : FactsD P nt ops id s av) : ∀ {j : Nat}, j ≤ ops.size → ∀ k u, get (s j).env k = some u →
    (∃ i o, i < j ∧ ops[i]? = some o ∧ o.dst = some k ∧ u = av i) ∨ ((∀ (i : Nat) o, i < j → ops[i]? = some o → o.dst ≠ some k) ∧ get (s 0).env k = some u) := by
  intro j
  induction j with
  | zero => intro _ k u h; exact .inr ⟨fun i o h => by omega, h⟩
  | succ j ih =>
    intro hj k u h
    rcases (hF.fact j ops[j] (by simp)).env k u h with ⟨h1, h2⟩ | ⟨h1, h2⟩
    · exact .inl ⟨j, ops[j], by omega, by simp, h1, h2⟩
    · rcases ih (by omega) k u h2 with ⟨i, o, h3, h4⟩ | ⟨h3, h4⟩
      · exact .inl ⟨i, o, by omega, h4⟩
      · refine .inr ⟨fun i o hi ho => ?_, h4⟩
        rcases Nat.lt_or_ge i j with h | h
        · exact h3 i o h ho
        · have : i = j := by omega
          subst this
          have hio : i < ops.size := by omega
          rw [Array.getElem?_eq_getElem hio] at ho
          injection ho with ho
          rw [← ho]
          exact h1

theorem not_listed {listed : Array Bool} (hsz : listed.size = ops.size) {j : Nat} (hjn : j < ops.size) (hj : j ∈ Region.ready .any ops listed) : ¬ inS listed j := by
  have := (mem_ready.1 hj).1
  unfold inS
  rw [Array.getD_eq_getD_getElem?] at this ⊢
  rw [Array.getElem?_eq_getElem (by rw [hsz]; exact hjn)] at this ⊢
  simp at this ⊢
  exact this
theorem slots_atD (hF : FactsD P nt ops id s av) (hd : DrawOK ops) {listed : Array Bool} {m : Nat} {c : Ob} {G : Gh} {a : Act} {w : World} (hI : InvD w0 nt ops id s av listed m c G a w) {j : Nat} {o : Oper} (ho : ops[j]? = some o) (hj : j ∈ Region.ready .any ops listed) :
    Slots nt ops o (s j).env (ovr (s m).objs id c) G w a := by
  have hjn : j < ops.size := (Array.getElem?_eq_some_iff.1 ho).1
  have hnj := not_listed hI.size hjn hj
  refine ⟨hI.tmps, fun k hk u hu => ?_⟩
  rcases env_atD hF (Nat.le_of_lt hjn) k u hu with ⟨i, x, h1, h2, h3, rfl⟩ | ⟨h1, h2⟩
  · have hc : conflict ops x o = true := by simp [conflict, h3, dstIn, memN_iff.2 hk]
    have := ready_reach hI.closed hj ((hd.pair j i x o h1 h2 ho).2 hc)
    exact ⟨.inl ((hF.fact i x h2).dst k h3), hI.done i x k this h2 h3⟩
  · refine ⟨hF.lt k u h2, hI.kept k u h2 (fun i x hi hx hdx => ?_)⟩
    rcases Nat.lt_or_ge i j with h | h
    · exact h1 i x h hx hdx
    · have hne : i ≠ j := fun e => by subst e; exact hnj hi
      have hc : conflict ops o x = true := by simp [conflict, hdx, dstIn, memN_iff.2 hk]
      exact hnj (reach_in hI.closed ((hd.pair i j o x (by omega) ho hx).2 hc) hi)

/-- One operation more. -/
theorem inv_stepD (hF : FactsD P nt ops id s av) (hd : DrawOK ops) {listed : Array Bool} {m m' : Nat} {c c' : Ob} {G G' : Gh} {a : Act} {w w' : World} (hI : InvD w0 nt ops id s av listed m c G a w) {j : Nat} {o : Oper} (ho : ops[j]? = some o) (hj : j ∈ Region.ready .any ops listed)
    (hph : Phase ops (listed.setIfInBounds j true) m') (hM : Mem w0 (ovr (s m').objs id c') G' w') (hp : Pres (ovr (s m).objs id c) G w (ovr (s m').objs id c') G' w') {v : Value} (hv : (av j).rep (ovr (s m').objs id c') G' w' v)
    (hA : ∀ x, G'.A x → G.A x ∨ (x < (s 0).next ∨ ∃ i, inS (listed.setIfInBounds j true) i ∧ (s i).next ≤ x ∧ x < (s (i + 1)).next))
    (hcur : ∃ q, q ≤ ops.size ∧ get (s q).objs id = some c' ∧ (∀ (i : Nat) o, i < q → ops[i]? = some o → isVal o.op = true → inS (listed.setIfInBounds j true) i) ∧ ∀ (i : Nat) o, q ≤ i → ops[i]? = some o → isVal o.op = true → ¬ inS (listed.setIfInBounds j true) i) :
    InvD w0 nt ops id s av (listed.setIfInBounds j true) m' c' G' (a.put o.dst v) w' := by
  have hjn : j < ops.size := (Array.getElem?_eq_some_iff.1 ho).1
  have hjl : j < listed.size := by rw [hI.size]; exact hjn
  obtain ⟨_, o', ho', hall⟩ := mem_ready.1 hj
  rw [ho] at ho'
  injection ho' with ho'
  subst ho'
  have hfj := hF.fact j o ho
  have slot : ∀ {k : Nat}, o.dst ≠ some k → (a.put o.dst v).tmps.getD k undef = a.tmps.getD k undef := by
    intro k hk
    cases hdo : o.dst with
    | none => rfl
    | some d => exact getD_put_other (fun e => hk (by rw [hdo, e]))
  refine ⟨by simp [hI.size], fun i x e hi hx he hb => ?_, hph, hM, fun x hx => ?_, fun i x k hi hx hk => ?_, fun k u hu hno => ?_, hcur, ?_, ?_⟩
  · rcases inS_set hi with hi | rfl
    · exact inS_set_mono (hI.closed i x e hi hx he hb)
    · rw [ho] at hx
      injection hx with hx
      subst hx
      exact inS_set_mono (hall e he hb)
  · rcases hA x hx with h | h
    · rcases hI.laid x h with h | ⟨i, h1, h2⟩
      · exact .inl h
      · exact .inr ⟨i, inS_set_mono h1, h2⟩
    · exact h
  · by_cases e : i = j
    · subst e
      rw [ho] at hx
      injection hx with hx
      subst hx
      rw [hk, getD_put_same (by rw [hI.tmps]; exact hfj.dst k hk)]
      exact hv
    · have hi' : inS listed i := (inS_set hi).resolve_right e
      have hne : o.dst ≠ some k := by
        intro hok
        rcases Nat.lt_or_ge i j with h | h
        · exact (hd.pair j i x o h hx ho).1 k hk hok
        · exact (hd.pair i j o x (by omega) ho hx).1 k hok hk
      rw [slot hne]
      exact (av i).rep_pres hp _ (hI.done i x k hi' hx hk)
  · have hne : o.dst ≠ some k := hno j o (getD_set_same hjl) ho
    rw [slot hne]
    exact u.rep_pres hp _ (hI.kept k u hu (fun i x hi hx => hno i x (inS_set_mono hi) hx))
  · rw [← hI.tmps]
    cases o.dst <;> simp [Act.put]
  · rw [← hI.defers]
    cases o.dst <;> rfl

theorem conflict_val {x y : Oper} (hx : isVal x.op = true) (hy : isVal y.op = true) : conflict ops x y = true := by unfold conflict; rw [hx, hy]; rfl

/-- The box's cells ahead of an operation that is ordered against all calls. -/
theorem cur_at (hF : FactsD P nt ops id s av) (hd : DrawOK ops) {listed : Array Bool} {m : Nat} {c : Ob} {G : Gh} {a : Act} {w : World} (hI : InvD w0 nt ops id s av listed m c G a w) {j : Nat} {o : Oper} (ho : ops[j]? = some o) (hj : j ∈ Region.ready .any ops listed)
    (hcf : ∀ x, isVal x.op = true → conflict ops x o = true ∧ conflict ops o x = true) : get (s j).objs id = some c ∧ (∀ (i : Nat) x, i < j → ops[i]? = some x → isVal x.op = true → inS listed i) ∧ ∀ (i : Nat) x, j ≤ i → ops[i]? = some x → isVal x.op = true → ¬ inS listed i := by
  have hjn : j < ops.size := (Array.getElem?_eq_some_iff.1 ho).1
  have hnj := not_listed hI.size hjn hj
  have before : ∀ (i : Nat) x, i < j → ops[i]? = some x → isVal x.op = true → inS listed i := fun i x hi hx hv => ready_reach hI.closed hj ((hd.pair j i x o hi hx ho).2 (hcf x hv).1)
  have after : ∀ (i : Nat) x, j ≤ i → ops[i]? = some x → isVal x.op = true → ¬ inS listed i := fun i x hi hx hv hin => by
    rcases Nat.lt_or_ge j i with h | h
    · exact hnj (reach_in hI.closed ((hd.pair i j o x h ho hx).2 (hcf x hv).2) hin)
    · have : i = j := by omega
      subst this
      exact hnj hin
  obtain ⟨q, hq1, hq2, hq3, hq4⟩ := hI.cur
  refine ⟨?_, before, after⟩
  rcases Nat.lt_or_ge j q with h | h
  · rw [← hq2]
    refine (box_const hF (Nat.le_of_lt h) hq1 (fun k x h1 h2 hx => ?_)).symm
    cases hv : isVal x.op with
    | false => rfl
    | true => exact absurd (hq3 k x h2 hx hv) (after k x h1 hx hv)
  · rw [← hq2]
    refine box_const hF h (Nat.le_of_lt hjn) (fun k x h1 h2 hx => ?_)
    cases hv : isVal x.op with
    | false => rfl
    | true => exact absurd (before k x h2 hx hv) (hq4 k x h1 hx hv)

theorem draw_anyD (hF : FactsD P nt ops id s av) (hd : DrawOK ops) {Q : Exit → Act → World → Prop} (hQ : ∀ G a w, Rel w0 (s ops.size) G nt a w → Q .normal a w) :
    ∀ (fuel : Nat) (listed : Array Bool) (m : Nat) (c : Ob) (G : Gh) (a : Act) (w : World), (List.range ops.size).countP (fun i => !listed.getD i false) ≤ fuel → InvD w0 nt ops id s av listed m c G a w → wpAny P .any ops Q fuel listed a w := by
  have fin : ∀ (listed : Array Bool) (m : Nat) (c : Ob) (G : Gh) (a : Act) (w : World), InvD w0 nt ops id s av listed m c G a w → Region.ready .any ops listed = [] → Q .normal a w := by
    intro listed m c G a w hI hr
    have all : ∀ i, i < ops.size → inS listed i := by
      intro i
      induction i using Nat.strongRecOn with
      | ind i ih =>
        intro hi
        by_cases h : inS listed i
        · exact h
        · exfalso
          have : i ∈ Region.ready .any ops listed := mem_ready.2 ⟨by
            unfold inS at h
            rw [Array.getD_eq_getD_getElem?] at h ⊢
            rw [Array.getElem?_eq_getElem (by rw [hI.size]; exact hi)] at h ⊢
            simpa using h, ops[i], by simp, fun e he hb => by
              have hlt := hd.back i ops[i] e (by simp) he hb
              exact ih e.on hlt (by omega)⟩
          rw [hr] at this
          cases this
    have hm : m = ops.size := by
      rcases Nat.lt_or_ge m ops.size with h | h
      · exact absurd (all m h) (hI.ph.new ops[m] (by simp)).2
      · have := hI.ph.le; omega
    have hm' := hm
    subst hm
    obtain ⟨q, hq1, hq2, _, hq4⟩ := hI.cur
    have hc : get (s ops.size).objs id = some c := by
      rw [← hq2]
      refine box_const hF hq1 (Nat.le_refl _) (fun k x h1 h2 hx => ?_)
      cases hv : isVal x.op with
      | false => rfl
      | true => exact absurd (all k h2) (hq4 k x h1 hx hv)
    have hlaid : ∀ j, G.A j → j < (s ops.size).next := fun j hj => by
      rcases hI.laid j hj with h | ⟨i, h1, h2, h3⟩
      · exact Nat.lt_of_lt_of_le h (next_monoD hF (Nat.zero_le _) (Nat.le_refl _))
      · have hi := inS_lt h1
        rw [hI.size] at hi
        exact Nat.lt_of_lt_of_le h3 (next_monoD hF (by omega) (Nat.le_refl _))
    obtain ⟨hM2, hp2⟩ := mem_later hI.mem hlaid (fun x _ => (ovr_eq hc x).symm)
    refine hQ G a w ⟨hM2, fun k u hu => ?_, fun k u hu => ?_, hI.tmps, hlaid, wf_allD hF (Nat.le_refl _), hI.defers⟩
    · rcases env_atD hF (Nat.le_refl _) k u hu with ⟨i, x, h1, h2, h3, rfl⟩ | ⟨h1, h2⟩
      · exact (av i).rep_pres hp2 _ (hI.done i x k (all i h1) h2 h3)
      · exact u.rep_pres hp2 _ (hI.kept k u h2 (fun i x hi hx => h1 i x (Array.getElem?_eq_some_iff.1 hx).1 hx))
    · rcases env_atD hF (Nat.le_refl _) k u hu with ⟨i, x, h1, h2, h3, rfl⟩ | ⟨h1, h2⟩
      · exact .inl ((hF.fact i x h2).dst k h3)
      · exact hF.lt k u h2
  intro fuel
  induction fuel with
  | zero =>
    intro listed m c G a w hcn hI
    have hr : Region.ready .any ops listed = [] := by
      refine List.eq_nil_iff_forall_not_mem.2 (fun j hj => ?_)
      obtain ⟨h1, o, h2, _⟩ := mem_ready.1 hj
      have hjn : j < ops.size := (Array.getElem?_eq_some_iff.1 h2).1
      have h0 : (List.range ops.size).countP (fun i => !listed.getD i false) = 0 := by omega
      have := List.countP_eq_zero.1 h0 j (by simp [hjn])
      rw [Array.getD_eq_getD_getElem?] at h1 this
      rw [Array.getElem?_eq_getElem (by rw [hI.size]; exact hjn)] at h1 this
      simp at h1 this
      rw [h1] at this
      cases this
    exact ⟨hr, fin listed m c G a w hI hr⟩
  | succ fuel ih =>
    intro listed m c G a w hcn hI
    refine ⟨fin listed m c G a w hI, fun j hj => ?_⟩
    obtain ⟨hun, o, ho, _⟩ := mem_ready.1 hj
    have hjn : j < ops.size := (Array.getElem?_eq_some_iff.1 ho).1
    have hjl : j < listed.size := by rw [hI.size]; exact hjn
    have hnj := not_listed hI.size hjn hj
    have hcnt : (List.range ops.size).countP (fun i => !(listed.setIfInBounds j true).getD i false) ≤ fuel := by
      have := countP_lt (p := fun i => !listed.getD i false) (q := fun i => !(listed.setIfInBounds j true).getD i false) (l := List.range ops.size) (x := j) (fun y _ hy => by
        by_cases h : inS listed y
        · have := inS_set_mono (i := j) h
          unfold inS at this
          rw [this] at hy
          cases hy
        · unfold inS at h
          cases hb : listed.getD y false with
          | true => exact absurd hb h
          | false => rfl) (by simp [hjn]) (by unfold inS at hnj; cases hb : listed.getD j false with | true => exact absurd hb hnj | false => rfl)
          (by have := getD_set_same hjl; unfold inS at this; simp [this])
      omega
    have hf := hF.fact j o ho
    have hsl := slots_atD hF hd hI ho hj
    have same : clsO ops o ≠ 2 → Phase ops (listed.setIfInBounds j true) m := fun h2 => ⟨hI.ph.le, fun i x hi hx hcx => inS_set_mono (hI.ph.old i x hi hx hcx), fun x hx => by
      obtain ⟨h3, h4⟩ := hI.ph.new x hx
      refine ⟨h3, fun h5 => ?_⟩
      rcases inS_set h5 with h5 | rfl
      · exact h4 h5
      · rw [ho] at hx; injection hx with hx; subst hx; exact h2 h3⟩
    -- the box where the operation is no call
    have curN : isVal o.op = false → ∃ q, q ≤ ops.size ∧ get (s q).objs id = some c ∧ (∀ (i : Nat) o, i < q → ops[i]? = some o → isVal o.op = true → inS (listed.setIfInBounds j true) i) ∧ ∀ (i : Nat) o, q ≤ i → ops[i]? = some o → isVal o.op = true → ¬ inS (listed.setIfInBounds j true) i := fun hv => by
      obtain ⟨q, h1, h2, h3, h4⟩ := hI.cur
      refine ⟨q, h1, h2, fun i x hi hx hvx => inS_set_mono (h3 i x hi hx hvx), fun i x hi hx hvx hin => ?_⟩
      rcases inS_set hin with h5 | rfl
      · exact h4 i x hi hx hvx h5
      · rw [ho] at hx; injection hx with hx; subst hx; rw [hv] at hvx; cases hvx
    have curV : isVal o.op = true → ∀ c', get (s (j + 1)).objs id = some c' → ∃ q, q ≤ ops.size ∧ get (s q).objs id = some c' ∧ (∀ (i : Nat) o, i < q → ops[i]? = some o → isVal o.op = true → inS (listed.setIfInBounds j true) i) ∧ ∀ (i : Nat) o, q ≤ i → ops[i]? = some o → isVal o.op = true → ¬ inS (listed.setIfInBounds j true) i := fun hv c' hc' => by
      obtain ⟨_, h3, h4⟩ := cur_at hF hd hI ho hj (fun x hx => ⟨conflict_val hx hv, conflict_val hv hx⟩)
      refine ⟨j + 1, hjn, hc', fun i x hi hx hvx => ?_, fun i x hi hx hvx hin => ?_⟩
      · rcases Nat.lt_or_ge i j with h | h
        · exact inS_set_mono (h3 i x h hx hvx)
        · have : i = j := by omega
          subst this
          exact getD_set_same hjl
      · rcases inS_set hin with h5 | h5
        · exact h4 i x (by omega) hx hvx h5
        · omega
    rcases clsO_le ops o with h0 | h1 | h2
    · obtain ⟨_, hg⟩ := hf.a h0
      have hv : isVal o.op = false := by
        cases hv : isVal o.op with
        | false => rfl
        | true => rw [clsO_val hv] at h0; cases h0
      refine hg _ G w a _ Q hsl (fun u hu => ih _ m c G _ w hcnt (inv_stepD hF hd hI ho hj (same (by omega)) hI.mem Pres.refl hu (fun x hx => .inl hx) (curN hv)))
    · have hjm : j < m := by
        rcases Nat.lt_or_ge j m with h | h
        · exact h
        · exfalso
          have hmn : m < ops.size := by omega
          obtain ⟨h3, h4⟩ := hI.ph.new ops[m] (by simp)
          have hne : m ≠ j := fun e => by
            subst e
            rw [Array.getElem?_eq_getElem hmn] at ho
            injection ho with ho
            rw [ho] at h3
            omega
          exact h4 (ready_reach hI.closed hj ((hd.pair j m ops[m] o (by omega) (by simp) ho).2 (conflict_me (.inl ⟨h3, by omega⟩))))
      have hext := objs_extD hF (i := j + 1) (j := m) (by omega) hI.ph.le (fun k x hk1 hk2 hx hcx => by
        have hk := hI.ph.old k x hk2 hx hcx
        exact hnj (reach_in hI.closed ((hd.pair k j o x (by omega) ho hx).2 (conflict_me (.inr ⟨hcx, by omega⟩))) hk))
      have hobj : ∀ x ob, x ≠ id → get (s (j + 1)).objs x = some ob → get (ovr (s m).objs id c) x = some ob := fun x ob hne hob => by
        rw [ovr_other _ _ _ hne, hext x (hf.wf x ob hob) hne]; exact hob
      have hfresh : ∀ x, (s j).next ≤ x → x < (s (j + 1)).next → ¬ G.A x := fun x hx1 hx2 hA => by
        rcases hI.laid x hA with h | ⟨i, h3, h4, h5⟩
        · have := next_monoD hF (Nat.zero_le j) (Nat.le_of_lt hjn)
          omega
        · have hil := inS_lt h3
          rw [hI.size] at hil
          rcases Nat.lt_trichotomy i j with h | h | h
          · have := next_monoD hF (show i + 1 ≤ j from h) (Nat.le_of_lt hjn)
            omega
          · subst h; exact hnj h3
          · have := next_monoD hF (show j + 1 ≤ i from h) (Nat.le_of_lt hil)
            omega
      rcases hf.b h1 with ⟨hkeep, hg⟩ | ⟨hv, hg⟩
      · refine hg w0 (ovr (s m).objs id c) G w a _ Q hobj hI.mem hsl hfresh (fun G' u w' hM' hp hu hA => ih _ m c G' _ w' hcnt (inv_stepD hF hd hI ho hj (same (by omega)) hM' hp hu (fun x hx => (hA x hx).imp_right (fun h => .inr ⟨j, getD_set_same hjl, h⟩)) ?_))
        cases hv : isVal o.op with
        | false => exact curN hv
        | true =>
          refine curV hv c ?_
          rw [hkeep]
          exact (cur_at hF hd hI ho hj (fun x hx => ⟨conflict_val hx hv, conflict_val hv hx⟩)).1
      · obtain ⟨hcj, _, _⟩ := cur_at hF hd hI ho hj (fun x hx => ⟨conflict_val hx hv, conflict_val hv hx⟩)
        obtain ⟨c', hc'⟩ := has_box hF (show j + 1 ≤ ops.size from hjn)
        refine hg w0 (ovr (s m).objs id c) (ovr (s m).objs id c') G w a _ Q hobj (by rw [ovr_same, hcj]) (fun x hne => by rw [ovr_other _ _ _ hne, ovr_other _ _ _ hne]) (by rw [ovr_same, hc']) hI.mem hsl hfresh
          (fun G' u w' hM' hp hu hA => ih _ m c' G' _ w' hcnt (inv_stepD hF hd hI ho hj (same (by omega)) hM' hp hu (fun x hx => (hA x hx).imp_right (fun h => .inr ⟨j, getD_set_same hjl, h⟩)) (curV hv c' hc')))
    · have hv : isVal o.op = false := by
        cases hv : isVal o.op with
        | false => rfl
        | true => rw [clsO_val hv] at h2; cases h2
      have hjm : j = m := by
        rcases Nat.lt_trichotomy j m with h | h | h
        · exact absurd (hI.ph.old j o h ho h2) hnj
        · exact h
        · exfalso
          have hmn : m < ops.size := by omega
          obtain ⟨h3, h4⟩ := hI.ph.new ops[m] (by simp)
          exact h4 (ready_reach hI.closed hj ((hd.pair j m ops[m] o h (by simp) ho).2 (conflict_me (.inl ⟨h3, by omega⟩))))
      subst hjm
      have hlt : ∀ x, G.A x → x < (s j).next := by
        intro x hA
        rcases hI.laid x hA with h | ⟨i, h3, h4, h5⟩
        · exact Nat.lt_of_lt_of_le h (next_monoD hF (Nat.zero_le j) (Nat.le_of_lt hjn))
        · have hil := inS_lt h3
          rw [hI.size] at hil
          rcases Nat.lt_trichotomy i j with h | h | h
          · exact Nat.lt_of_lt_of_le h5 (next_monoD hF h (Nat.le_of_lt hjn))
          · subst h; exact absurd h3 hnj
          · exfalso
            have hx : ops[i]? = some ops[i] := by simp
            by_cases hci : clsO ops (ops[i]) = 0
            · have := ((hF.fact i _ hx).a hci).1
              omega
            · exact hnj (reach_in hI.closed ((hd.pair i j o ops[i] h ho hx).2 (conflict_me (.inl ⟨h2, hci⟩))) h3)
      have hcf : ∀ x, isVal x.op = true → conflict ops x o = true ∧ conflict ops o x = true := fun x hx => by
        have h1 := clsO_val (ops := ops) hx
        exact ⟨conflict_me (.inr ⟨h2, by omega⟩), conflict_me (.inl ⟨h2, by omega⟩)⟩
      obtain ⟨hcj, _, _⟩ := cur_at hF hd hI ho hj hcf
      obtain ⟨hM1, hp1⟩ := mem_later hI.mem hlt (fun x _ => (ovr_eq hcj x).symm)
      have hsl1 : Slots nt ops o (s j).env (s j).objs G w a := ⟨hsl.1, fun k hk u hu => ⟨(hsl.2 k hk u hu).1, u.rep_pres hp1 _ (hsl.2 k hk u hu).2⟩⟩
      obtain ⟨m', hm1, hm2, hm3, hm4⟩ := phase_next (ops.size - (j + 1)) ops.size (j + 1) rfl (by omega) (fun i => match ops[i]? with | some x => Nat.beq (clsO ops x) 2 | none => false)
      have hno : ∀ (k : Nat) x, j + 1 ≤ k → k < m' → ops[k]? = some x → clsO ops x ≠ 2 := by
        intro k x h1 h2 h3 h4
        have := hm3 k h1 h2
        simp [h3, h4] at this
      have hext := objs_extD hF (i := j + 1) (j := m') hm1 hm2 hno
      have hph : Phase ops (listed.setIfInBounds j true) m' := by
        refine ⟨hm2, fun i x hi hx hcx => ?_, fun x hx => ?_⟩
        · rcases Nat.lt_trichotomy i j with h | h | h
          · exact inS_set_mono (hI.ph.old i x h hx hcx)
          · subst h; exact getD_set_same hjl
          · exact absurd hcx (hno i x h hi hx)
        · have hlt' : m' < ops.size := (Array.getElem?_eq_some_iff.1 hx).1
          have hc2 := hm4 hlt'
          simp only [hx] at hc2
          have hc2 := Nat.eq_of_beq_eq_true hc2
          refine ⟨hc2, fun h => ?_⟩
          rcases inS_set h with h | rfl
          · exact hnj (reach_in hI.closed ((hd.pair m' j o x (by omega) ho hx).2 (conflict_me (.inl ⟨h2, by omega⟩))) h)
          · omega
      have hcj1 : get (s (j + 1)).objs id = some c := by rw [hf.keep hv]; exact hcj
      refine hf.e h2 w0 G w a _ Q hM1 hsl1 hlt (fun G' u w' hM' hp hu hA => ?_)
      obtain ⟨hM2, hp2⟩ := mem_later (O' := ovr (s m').objs id c) hM' hA (fun x hx => by
        by_cases e : x = id
        · subst e; rw [ovr_same, hcj1]
        · rw [ovr_other _ _ _ e]; exact hext x hx e)
      refine ih _ m' c G' _ w' hcnt (inv_stepD hF hd hI ho hj hph hM2 (hp1.trans (hp.trans hp2)) ((av j).rep_pres hp2 _ hu) (fun x hx => ?_) (curN hv))
      right
      by_cases h0 : x < (s 0).next
      · exact .inl h0
      · obtain ⟨i, h3, h4, h5⟩ := range_of (s := s) (j + 1) x (by omega) (hA x hx)
        refine .inr ⟨i, ?_, h4, h5⟩
        rcases Nat.lt_or_ge i j with h | h
        · have hx' : ops[i]? = some ops[i] := by simp
          refine inS_set_mono (ready_reach hI.closed hj ((hd.pair j i ops[i] o h hx' ho).2 (conflict_me (.inr ⟨h2, fun hci => ?_⟩))))
          have := ((hF.fact i _ hx').a hci).1
          omega
        · have : i = j := by omega
          subst this
          exact getD_set_same hjl

/-- THE DRAWN REGION, with calls that are given a pointer to a box. -/
theorem draw_soundD (hE : TOk P E) (hm : P.follows .mixedOrders = true) (nt : Nat) (w0 : Base) (rid : Nat) (ops : Array Oper) (id : Nat) (K : St → Prop) (σ : St) (G : Gh) (a : Act) (w : World) (hok : drawOK ops = true) (hbox : ∃ c, get σ.objs id = some c)
    (h : evOpsD P E nt ops id ops.toList K σ) (hR : Rel w0 σ G nt a w) : (Code.region rid ops true).wp P (Post w0 nt fun e σ' => e = .normal ∧ K σ') a w := by
  obtain ⟨s, av, h1, h2, h3⟩ := evOpsD_trace hE ops.toList 0 σ (fun i o hi => by simpa using hi) hR.wf h
  have hF : FactsD P nt ops id s av := ⟨fun i o ho => by have := h2 i o (by simpa using ho); simpa using this, by rw [h1]; exact hR.wf, by rw [h1]; exact hR.lt, by rw [h1]; exact hbox⟩
  have hd := drawOK_spec hok
  simp only [Array.length_toList, Nat.zero_add] at h3
  refine wp_region_any hm ?_
  have no : ∀ i, ¬ inS (Array.replicate ops.size false) i := fun i h => by
    unfold inS at h
    rw [Array.getD_eq_getD_getElem?, Array.getElem?_replicate] at h
    split at h <;> simp at h
  obtain ⟨m, _, hm2, hm3, hm4⟩ := phase_next (ops.size - 0) ops.size 0 rfl (by omega) (fun i => match ops[i]? with | some x => Nat.beq (clsO ops x) 2 | none => false)
  have hno : ∀ (k : Nat) x, 0 ≤ k → k < m → ops[k]? = some x → clsO ops x ≠ 2 := by
    intro k x h1 h2 h3 h4
    have := hm3 k h1 h2
    simp [h3, h4] at this
  have hM0 : Mem w0 σ.objs G { w with drawn := w.drawn + 1 } ∧ Pres σ.objs G w σ.objs G { w with drawn := w.drawn + 1 } :=
    hR.mem.step (fun id => Lv σ.objs G id) (fun _ => False) (fun id h => ⟨h, rfl⟩) ⟨rfl, rfl⟩ (fun id h => ⟨h, rfl, rfl, rfl⟩) (fun id h => .inl h) rfl rfl rfl (Nat.le_refl _) (fun b _ _ => rfl)
      (fun _ h => h.elim) (fun _ _ h => h.elim) (fun _ h => h.elim) (fun _ h => h.elim) (fun _ _ h => h.elim)
  have hlt : ∀ j, G.A j → j < (s 0).next := fun j hj => by rw [h1]; exact hR.fresh j hj
  obtain ⟨c, hc⟩ := hbox
  obtain ⟨hM1, hp1⟩ := mem_later (O' := ovr (s m).objs id c) hM0.1 hR.fresh (fun x hx => by
    by_cases e : x = id
    · subst e; rw [ovr_same, hc]
    · rw [ovr_other _ _ _ e, objs_extD hF (Nat.zero_le m) hm2 hno x (by rw [h1]; exact hx) e, h1])
  have hp := hM0.2.trans hp1
  refine draw_anyD (w0 := w0) hF hd (fun G' a' w' hR' => ⟨.normal, s ops.size, G', rfl, ⟨rfl, h3⟩, hR'⟩) ops.size _ m c G a _ ?_ ⟨by simp, fun i o e hi => absurd hi (no i), ⟨hm2, fun i o hi ho hc => absurd hc (hno i o (Nat.zero_le _) hi ho), fun o ho => ⟨?_, no m⟩⟩, hM1, fun j hj => .inl (hlt j hj), fun i o k hi => absurd hi (no i), fun k u hu _ => ?_, ⟨0, Nat.zero_le _, by rw [h1]; exact hc, fun i o hi => by omega, fun i o _ _ _ => no i⟩, hR.size, hR.defers⟩
  · exact Nat.le_trans List.countP_le_length (by simp)
  · have := hm4 (Array.getElem?_eq_some_iff.1 ho).1
    simp only [ho] at this
    exact Nat.eq_of_beq_eq_true this
  · rw [h1] at hu
    exact u.rep_pres hp _ (hR.env k u hu)

/-- THE CONTRACT OF A FUNCTION, FROM THE EVALUATION OF ITS BODY. -/
theorem fnAt_of (hE : TOk P E) (hm : P.follows .mixedOrders = true) {f : FuncId} {fn : Func} {c : Code} (hf : P.funcs[f]? = some fn) (hb : fn.body = some c) (hn : (fn.name == "runtime.NumGoroutine") = false) {args : List V} {rs : List RV} (hlen : Nat.ble args.length fn.ntmps = true)
    (h : ev P E fn.ntmps c (retK E fn.results.toList rs) ⟨initEnv 0 args, [], 0⟩) : FnAt P f args rs :=
  fnAt_of_ev hE (draw_sound hE hm) (draw_soundD hE hm) hf hb hn hlen h
end
end Go.Vm
