/-
  Soundness of the evaluator of code; a function's contract from its evaluation.
  How a table of types is held against a program; small rules for the use of the evaluator.
  Conditions: the table of types fits the program ('TOk').
-/
import Derived.Test.YtpipfobdfcnghaaVmN
namespace Go.Vm
open Go.RowKit

theorem somes_inj : ∀ {ρ : List (Nat × Option Nat)} {i j k : Nat}, (somes ρ).Nodup → get ρ i = some (some k) → get ρ j = some (some k) → i = j := by
  have mem : ∀ {ρ : List (Nat × Option Nat)} {i k : Nat}, get ρ i = some (some k) → k ∈ somes ρ := by
    intro ρ
    induction ρ with
    | nil => intro i k h; cases h
    | cons p r ih =>
      intro i k h
      obtain ⟨q, o⟩ := p
      cases hb : Nat.beq q i with
      | true =>
        simp only [get, hb, cond_true] at h
        injection h with h
        subst h
        simp [somes]
      | false =>
        simp only [get, hb, cond_false] at h
        cases o <;> simp [somes, ih h]
  intro ρ
  induction ρ with
  | nil => intro i j k _ h _; cases h
  | cons p r ih =>
    intro i j k hn hi hj
    obtain ⟨q, o⟩ := p
    cases hbi : Nat.beq q i with
    | true =>
      have ei : q = i := Nat.eq_of_beq_eq_true hbi
      simp only [get, hbi, cond_true, Option.some.injEq] at hi
      subst hi
      simp only [somes] at hn
      obtain ⟨hk, _⟩ := List.nodup_cons.1 hn
      cases hbj : Nat.beq q j with
      | true => rw [← ei]; exact Nat.eq_of_beq_eq_true hbj
      | false =>
        simp only [get, hbj, cond_false] at hj
        exact absurd (mem hj) hk
    | false =>
      simp only [get, hbi, cond_false] at hi
      cases hbj : Nat.beq q j with
      | true =>
        simp only [get, hbj, cond_true, Option.some.injEq] at hj
        subst hj
        simp only [somes] at hn
        exact absurd (mem hi) (List.nodup_cons.1 hn).1
      | false =>
        simp only [get, hbj, cond_false] at hj
        refine ih ?_ hi hj
        cases o with
        | none => simpa [somes] using hn
        | some k' => simp only [somes] at hn; exact (List.nodup_cons.1 hn).2

theorem subEnv_get {ρ : List (Nat × Option Nat)} {old : List (Nat × AV)} : ∀ {new : List (Nat × AV)} {k : Nat} {v : AV}, subEnv ρ old new → get new k = some v → ∃ u u', get old k = some u ∧ renAV ρ v = some u' ∧ sub1 u u'
  | [], k, v, _, h => by cases h
  | (q, x) :: r, k, v, hs, h => by
    obtain ⟨u, e1, hs⟩ := need_some hs
    obtain ⟨u', e2, h1, h2⟩ := need_some hs
    cases hb : Nat.beq q k with
    | true =>
      have := Nat.eq_of_beq_eq_true hb
      subst this
      simp only [get, hb, cond_true, Option.some.injEq] at h
      subst h
      exact ⟨u, u', e1, e2, h1⟩
    | false => simp only [get, hb, cond_false] at h; exact subEnv_get h2 h
theorem subObjs_get {ρ : List (Nat × Option Nat)} {old : List (Nat × Ob)} {next : Nat} : ∀ {new : List (Nat × Ob)} {id : Nat} {o : Ob}, subObjs ρ old next new → get new id = some o →
    id < next ∧ ((∃ k u, get ρ id = some (some k) ∧ get old k = some u ∧ match o with
          | .box cs => ∃ us ds, renCs ρ cs = some ds ∧ u = .box us ∧ (us = ds ∨ subCs us ds)
          | .row own app sz rows => u = .row own app sz rows
          | .tmp .. => False
          | .vw _ => False) ∨ (get ρ id = some none ∧ ∃ sz, o = .row true true sz []))
  | [], id, o, _, h => by cases h
  | (q, x) :: r, id, o, hs, h => by
    rcases scase_out hs with ⟨h1, hs⟩ | ⟨_, hs⟩
    case inr => exact hs.elim
    obtain ⟨e, he, hs⟩ := need_some hs
    cases hb : Nat.beq q id with
    | true =>
      have := Nat.eq_of_beq_eq_true hb
      subst this
      simp only [get, hb, cond_true, Option.some.injEq] at h
      subst h
      have hlt : q < next := by
        have : q + 1 ≤ next := by simpa [Nat.blt] using h1
        omega
      refine ⟨hlt, ?_⟩
      split at hs
      · rename_i k
        obtain ⟨u, h4, h5, _⟩ := need_some hs
        refine .inl ⟨k, u, he, h4, ?_⟩
        unfold subOb at h5
        split at h5
        · obtain ⟨ds, h6, h7⟩ := need_some h5
          exact ⟨_, ds, h6, rfl, h7⟩
        · obtain ⟨⟨rfl, rfl, rfl⟩, rfl⟩ := h5
          rfl
        · exact h5.elim
      · split at hs
        · exact .inr ⟨he, _, rfl⟩
        · exact hs.elim
    | false =>
      simp only [get, hb, cond_false] at h
      split at hs
      · obtain ⟨u, _, _, h3⟩ := need_some hs
        exact subObjs_get h3 h
      · split at hs
        · exact subObjs_get hs h
        · exact hs.elim

theorem notFrm {ρ : List (Nat × Option Nat)} {v u u' : AV} (h : renAV ρ v = some u') (hs : sub1 u u') : ¬ isFrm u = true := by
  cases u with
  | frm ks vs =>
    have e : AV.frm ks vs = u' := hs
    subst e
    cases v with
    | c x => simp only [renAV] at h; split at h <;> cases h
    | agg x => simp only [renAV] at h; split at h <;> cases h
    | ptr x y => simp only [renAV] at h; split at h <;> cases h
    | pin x =>
      cases x with
      | c x => simp only [renAV] at h; split at h <;> cases h
      | agg x => simp only [renAV] at h; split at h <;> cases h
      | ptr x y => simp only [renAV] at h; split at h <;> cases h
      | _ => simp [renAV] at h
    | _ => simp [renAV] at h
  | _ => simp [isFrm]

def renGh (ρ : List (Nat × Option Nat)) (G : Gh) : Gh where
  A := fun id => ∃ e, get ρ id = some e ∧ ∀ k, e = some k → G.A k
  φ := fun id => match get ρ id with | some (some k) => G.φ k | _ => .slice none 0 0
  Φ := fun id => match get ρ id with | some (some k) => G.Φ k | _ => []
  h := fun id => match get ρ id with | some (some k) => G.h k | _ => []
  b := G.b
  pin := G.pin

theorem sub1_rep {O : List (Nat × Ob)} {G : Gh} {w : World} {u u' : AV} {v : Value} (h : sub1 u u') (hr : u.rep O G w v) : u'.rep O G w v := by
  unfold sub1 at h
  split at h
  · subst h
    simp only [AV.rep] at hr ⊢
    exact stripC_rep hr
  · rcases h with h | h
    · subst h; exact hr
    · simp only [AV.rep] at hr ⊢
      obtain ⟨vs, h1, h2⟩ := hr
      exact ⟨vs, h1, subCs_rep h h2⟩
  · subst h; exact hr

section
variable {P : Program} {E : Nat → Option TI} {nt : Nat} {w0 : Base}

theorem Rel.sub {σ σ' : St} {G : Gh} {a : Act} {w : World} (h : Rel w0 σ G nt a w) (hs : Sub σ σ') : ∃ G', Rel w0 σ' G' nt a w := by
  obtain ⟨ρ, hn, _, hall, henv, hobs⟩ := hs
  have hnd := nodupB_iff hn
  have live : ∀ id, Lv σ'.objs (renGh ρ G) id → (∃ k, get ρ id = some (some k) ∧ Lv σ.objs G k ∧ (renGh ρ G).h id = G.h k ∧ (renGh ρ G).Φ id = G.Φ k) ∨ (get ρ id = some none ∧ (renGh ρ G).h id = [] ∧ (renGh ρ G).Φ id = []) := by
    intro id ⟨⟨e, he, hA⟩, o, ho⟩
    rcases (subObjs_get hobs ho).2 with ⟨k, u, h1, h2, _⟩ | ⟨h1, _⟩
    · rw [he] at h1
      injection h1 with h1
      subst h1
      exact .inl ⟨k, he, ⟨hA k rfl, u, h2⟩, by simp [renGh, he], by simp [renGh, he]⟩
    · exact .inr ⟨h1, by simp [renGh, h1], by simp [renGh, h1]⟩
  have imm : ∀ {F}, Imm σ.objs G F → Imm σ'.objs (renGh ρ G) F := by
    intro F hF id hl b hb hbd
    rcases live id hl with ⟨k, _, hk, hφ, _⟩ | ⟨_, hφ, _⟩
    · rw [hφ] at hbd; exact hF k hk b hb hbd
    · rw [hφ] at hbd; simp at hbd
  have repC : ∀ {x y : C} {v : Value}, renC ρ x = some y → y.rep σ.objs G w v → x.rep σ'.objs (renGh ρ G) w v := by
    intro x y v hx hr
    cases x with
    | nil => simp only [renC, Option.some.injEq] at hx; subst hx; exact hr
    | nil0 => simp [renC] at hx
    | anc x =>
      simp only [renC, Option.some.injEq] at hx
      subst hx
      obtain ⟨F, h1, h2, h3⟩ := hr
      exact ⟨F, h1, imm h2, h3⟩
    | t x =>
      simp only [renC, Option.some.injEq] at hx
      subst hx
      obtain ⟨F, h1, h2⟩ := hr
      exact ⟨F, h1, imm h2⟩
    | ref id =>
      simp only [renC] at hx
      split at hx
      · rename_i k hk
        injection hx with hx
        subst hx
        obtain ⟨h1, h2, h3⟩ := hr
        exact ⟨⟨_, hk, fun k' e => by injection e with e; subst e; exact h1⟩, by simp only [renGh, hk]; exact h2, h3⟩
      · rename_i hk
        injection hx with hx
        subst hx
        have hv : v = .slice none 0 0 := hr
        subst hv
        exact ⟨⟨_, hk, fun k' e => by cases e⟩, by simp only [renGh, hk], one_slice _ _ _⟩
      · cases hx
    | fn f ids => simp [renC] at hx
    | view id sz lo hi => simp [renC] at hx
  have repCs' : ∀ {xs ys : List C} {vs : List Value}, renCs ρ xs = some ys → repCs σ.objs G w ys vs → repCs σ'.objs (renGh ρ G) w xs vs := by
    intro xs
    induction xs with
    | nil => intro ys vs hx hr; simp only [renCs, Option.some.injEq] at hx; subst hx; exact hr
    | cons x xs ih =>
      intro ys vs hx hr
      simp only [renCs] at hx
      split at hx
      · rename_i y ys' e1 e2
        injection hx with hx
        subst hx
        obtain ⟨v, vs', h1, h2, h3⟩ := hr
        exact ⟨v, vs', h1, repC e1 h2, ih e2 h3⟩
      · cases hx
  have repAV : ∀ (v u : AV) (val : Value), renAV ρ v = some u → u.rep σ.objs G w val → v.rep σ'.objs (renGh ρ G) w val := by
    intro v
    cases v with
    | c x =>
      intro u val h2 hu
      simp only [renAV] at h2
      split at h2
      · rename_i y e1
        injection h2 with h2
        subst h2
        simp only [AV.rep] at hu ⊢
        exact repC e1 hu
      · cases h2
    | agg xs =>
      intro u val h2 hu
      simp only [renAV] at h2
      split at h2
      · rename_i y e1
        injection h2 with h2
        subst h2
        simp only [AV.rep] at hu ⊢
        obtain ⟨vs, h3, h4⟩ := hu
        exact ⟨vs, h3, repCs' e1 h4⟩
      · cases h2
    | ptr id off =>
      intro u val h2 hu
      simp only [renAV] at h2
      split at h2
      · rename_i k' hk'
        injection h2 with h2
        subst h2
        simp only [AV.rep] at hu ⊢
        obtain ⟨h3, ad, h4, h5⟩ := hu
        exact ⟨⟨_, hk', fun q e => by injection e with e; subst e; exact h3⟩, ad, by simp only [renGh, hk']; exact h4, h5⟩
      · cases h2
    | junk => intro u val h2 hu; simp only [renAV, Option.some.injEq] at h2; subst h2; simp only [AV.rep] at hu ⊢; exact hu
    | nilq rows => intro u val h2 hu; simp [renAV] at h2
    | pin x =>
      intro u val h2 hu
      cases x with
      | c x =>
        simp only [renAV] at h2
        split at h2
        · rename_i y e1
          injection h2 with h2
          subst h2
          simp only [AV.rep] at hu ⊢
          exact ⟨repC e1 hu.1, hu.2⟩
        · cases h2
      | agg xs =>
        simp only [renAV] at h2
        split at h2
        · rename_i y e1
          injection h2 with h2
          subst h2
          simp only [AV.rep] at hu ⊢
          obtain ⟨⟨vs, h3, h4⟩, h5⟩ := hu
          exact ⟨⟨vs, h3, repCs' e1 h4⟩, h5⟩
        · cases h2
      | ptr id off =>
        simp only [renAV] at h2
        split at h2
        · rename_i k' hk'
          injection h2 with h2
          subst h2
          simp only [AV.rep] at hu ⊢
          obtain ⟨⟨h3, ad, h4, h5⟩, h6⟩ := hu
          exact ⟨⟨⟨_, hk', fun q e => by injection e with e; subst e; exact h3⟩, ad, by simp only [renGh, hk']; exact h4, h5⟩, h6⟩
        · cases h2
      | _ => simp [renAV] at h2
    | tup xs => intro u val h2; simp [renAV] at h2
    | frm ks vs => intro u val h2; simp [renAV] at h2
    | any => intro u val h2; simp [renAV] at h2
    | iptr id sz i off => intro u val h2; simp [renAV] at h2
    | sptr cells off => intro u val h2; simp [renAV] at h2
  refine ⟨renGh ρ G, ⟨⟨h.mem.below, h.mem.base, h.mem.fix, fun id o ha ho => ?_, fun id hl => ?_, fun i j hi hj hne => ?_, fun id hl b hb => ?_, fun id hl b hb => ?_⟩, fun k v hk => ?_, fun k v hk => ?_, h.size, fun j hj => ?_, fun id o ho => (subObjs_get hobs ho).1, h.defers⟩⟩
  · rcases (subObjs_get hobs ho).2 with ⟨k, u, h1, h2, h3⟩ | ⟨h1, sz, h2⟩
    · have hA : G.A k := by obtain ⟨e, he, hA⟩ := ha; rw [he] at h1; injection h1 with h1; subst h1; exact hA k rfl
      have hold := h.mem.obs k u hA h2
      have hφ : (renGh ρ G).φ id = G.φ k := by simp [renGh, h1]
      have hΦ : (renGh ρ G).Φ id = G.Φ k := by simp [renGh, h1]
      have hH : (renGh ρ G).h id = G.h k := by simp [renGh, h1]
      cases o with
      | box cs =>
        obtain ⟨us, ds, h4, rfl, h4'⟩ := h3
        obtain ⟨g, vs, e, h5, h6, h7, h8, h9⟩ := hold
        have h7' : repCs σ.objs G w ds vs := by
          rcases h4' with h | h
          · rw [← h]; exact h7
          · exact subCs_rep h h7
        exact ⟨g, vs, e, hφ.trans h5, h6, repCs' h4 h7', hΦ.trans h8, hH.trans h9⟩
      | row own app sz rows =>
        subst h3
        obtain ⟨css, F', h5, h6, h7, h8⟩ := hold
        refine ⟨css, F', h5, h6, by rw [hφ, hH]; exact h7, ?_⟩
        rw [hH, hΦ]
        cases own with
        | true => simpa only [if_true] using h8
        | false => simp only [Bool.false_eq_true, if_false] at h8 ⊢; exact ⟨h8.1, imm h8.2⟩
      | tmp sz rows => exact h3.elim
      | vw rows => exact h3.elim
    · subst h2
      have hφ : (renGh ρ G).φ id = .slice none 0 0 := by simp [renGh, h1]
      have hΦ : (renGh ρ G).Φ id = [] := by simp [renGh, h1]
      have hH : (renGh ρ G).h id = [] := by simp [renGh, h1]
      refine ⟨[], [], by simp [repRows], by simp, ?_, ?_⟩
      · simp only [if_true, hφ, hH]; exact ⟨⟨by simp, .inl ⟨none, rfl, rfl⟩⟩, rfl⟩
      · simp [hH, hΦ]
  · rcases live id hl with ⟨k, _, hk, _, hΦ⟩ | ⟨_, _, hΦ⟩
    · rw [hΦ]; exact h.mem.nodup k hk
    · rw [hΦ]; simp
  · rcases live i hi with ⟨k, e1, hk, _, hΦ⟩ | ⟨_, _, hΦ⟩ <;> rcases live j hj with ⟨k', e2, hk', _, hΦ'⟩ | ⟨_, _, hΦ'⟩ <;> rw [hΦ, hΦ']
    · exact h.mem.disj k k' hk hk' (fun e => hne (by subst e; exact somes_inj hnd e1 e2))
    · simp
    · simp
    · simp
  · rcases live id hl with ⟨k, _, hk, _, hΦ⟩ | ⟨_, _, hΦ⟩
    · rw [hΦ] at hb; exact h.mem.lo k hk b hb
    · rw [hΦ] at hb; simp at hb
  · rcases live id hl with ⟨k, _, hk, hφ, hΦ⟩ | ⟨_, hφ, hΦ⟩
    · rw [hφ] at hb; rw [hΦ]; exact h.mem.hds k hk b hb
    · rw [hφ] at hb; simp at hb
  · obtain ⟨u0, u, h1, h2, hs1⟩ := subEnv_get henv hk
    have hu := sub1_rep hs1 (h.env k u0 h1)
    clear h1 hs1
    revert h2 hu
    generalize a.tmps.getD k undef = val
    exact repAV v u val
  · obtain ⟨u, u', h1, h2, h3⟩ := subEnv_get henv hk
    exact .inl ((h.lt k u h1).resolve_right (notFrm h2 h3))
  · obtain ⟨e, he, _⟩ := hj
    have : ∀ {ρ : List (Nat × Option Nat)} {e}, get ρ j = some e → (ρ.all fun p => Nat.blt p.1 σ'.next) = true → j < σ'.next := by
      intro ρ
      induction ρ with
      | nil => intro e h; cases h
      | cons p r ih =>
        intro e h ha
        simp only [List.all_cons, Bool.and_eq_true] at ha
        obtain ⟨q, o⟩ := p
        cases hb : Nat.beq q j with
        | true =>
          have := Nat.eq_of_beq_eq_true hb
          subst this
          have : q + 1 ≤ σ'.next := by simpa [Nat.blt] using ha.1
          omega
        | false => simp only [get, hb, cond_false] at h; exact ih h ha.2
    exact this he hall

/-! ### Code -/
def toExit : Ex → Exit
  | .normal => .normal
  | .exit id => .exit id
  | .ret => .ret

def Post (w0 : Base) (nt : Nat) (K : Ex → St → Prop) : Exit → Act → World → Prop := fun e a w => ∃ ex σ G, e = toExit ex ∧ K ex σ ∧ Rel w0 σ G nt a w

theorem ev_sound (hE : TOk P E) (hdraw : ∀ (id : Nat) (ops : Array Oper) (K : St → Prop) (σ : St) (G : Gh) (a : Act) (w : World), drawOK ops = true → evOps P E nt false ops ops.toList K σ → Rel w0 σ G nt a w →
      (Code.region id ops true).wp P (Post w0 nt fun e σ' => e = .normal ∧ K σ') a w)
    (hdrawD : ∀ (id : Nat) (ops : Array Oper) (bid : Nat) (K : St → Prop) (σ : St) (G : Gh) (a : Act) (w : World), drawOK ops = true → (∃ c, get σ.objs bid = some c) → evOpsD P E nt ops bid ops.toList K σ → Rel w0 σ G nt a w →
      (Code.region id ops true).wp P (Post w0 nt fun e σ' => e = .normal ∧ K σ') a w) :
    ∀ (c : Code) {K : Ex → St → Prop} {σ : St} {G : Gh} {a : Act} {w : World}, ev P E nt c K σ → Rel w0 σ G nt a w → c.wp P (Post w0 nt K) a w := by
  intro c
  induction c with
  | skip => intro K σ G a w h hR; exact wp_skip ⟨.normal, σ, G, rfl, h, hR⟩
  | region id ops d =>
    intro K σ G a w h hR
    cases d with
    | false =>
      have h' : ncase (isNest ops.toList) (RegAt P nt (.region id ops false) (K .normal) σ) (evReg P E nt ops (K .normal) σ) := h
      unfold ncase at h'
      split at h'
      · refine wp_mono (h' w0 G a w hR) ?_
        rintro e a' w' ⟨rfl, σ', G', hk, hR'⟩
        exact ⟨.normal, σ', G', rfl, hk, hR'⟩
      · exact wp_region_list (evReg_sound hE h' hR (fun σ' G' a' w' hk hR' => ⟨.normal, σ', G', rfl, hk, hR'⟩))
    | true =>
      have h' : ncase (isHand ops) (RegAt P nt (.region id ops true) (K .normal) σ) ((drawOK ops = true ∧ evOps P E nt false ops ops.toList (K .normal) σ) ∨ (drawOK ops = true ∧ ∃ id, (∃ c, get σ.objs id = some c) ∧ evOpsD P E nt ops id ops.toList (K .normal) σ)) := h
      clear h
      unfold ncase at h'
      split at h'
      · refine wp_mono (h' w0 G a w hR) ?_
        rintro e a' w' ⟨rfl, σ', G', hk, hR'⟩
        exact ⟨.normal, σ', G', rfl, hk, hR'⟩
      rcases h' with ⟨h1, h2⟩ | ⟨h1, bid, h2, h3⟩
      · refine wp_mono (hdraw id ops _ σ G a w h1 h2 hR) ?_
        rintro e a' w' ⟨ex, σ', G', rfl, ⟨rfl, hk⟩, hR'⟩
        exact ⟨.normal, σ', G', rfl, hk, hR'⟩
      · refine wp_mono (hdrawD id ops bid _ σ G a w h1 h2 h3 hR) ?_
        rintro e a' w' ⟨ex, σ', G', rfl, ⟨rfl, hk⟩, hR'⟩
        exact ⟨.normal, σ', G', rfl, hk, hR'⟩
  | seq x y ihx ihy =>
    intro K σ G a w h hR
    refine wp_seq (wp_mono (ihx h hR) ?_)
    rintro e a' w' ⟨ex, σ', G', rfl, hk, hR'⟩
    cases ex with
    | normal => exact ihy hk hR'
    | exit id => exact ⟨.exit id, σ', G', rfl, hk, hR'⟩
    | ret => exact ⟨.ret, σ', G', rfl, hk, hR'⟩
  | cond c x y ihx ihy =>
    intro K σ G a w h hR
    have h' := need_some h; clear h
    obtain ⟨v, ev', h⟩ := h'
    split at h
    · rename_i b
      have hv : a.eval c = .bool b := by
        cases c with
        | tmp t =>
          simp only [val] at ev'
          split at ev'
          · rename_i u hu
            injection ev' with ev'
            have hs := strip_rep (hR.env t u hu)
            rw [ev'] at hs
            exact bool_of hs
          · cases ev'
        | const q => exact bool_of (constAV_rep (O := σ.objs) (G := G) (w := w) ev')
        | global g => cases ev'
        | func f => simp [val] at ev'
      rcases bcase_out h with ⟨rfl, hz⟩ | ⟨rfl, hz⟩
      · exact wp_cond_true hv (ihx hz hR)
      · exact wp_cond_false hv (ihy hz hR)
    · rename_i rows
      obtain ⟨b, hv, hb⟩ : ∃ b : Bool, a.eval c = .bool b ∧ (b = true → rows = []) := by
        cases c with
        | tmp t =>
          simp only [val] at ev'
          split at ev'
          · rename_i u hu
            injection ev' with ev'
            have hs := strip_rep (hR.env t u hu)
            rw [ev'] at hs
            simp only [AV.rep] at hs
            exact hs
          · cases ev'
        | const q =>
          have := constAV_rep (O := σ.objs) (G := G) (w := w) ev'
          simp only [AV.rep] at this
          exact this
        | global g => cases ev'
        | func f => simp [val] at ev'
      cases b with
      | true => exact wp_cond_true hv (ihx (h.1 (hb rfl)) hR)
      | false => exact wp_cond_false hv (ihy h.2 hR)
    · exact h.elim
  | block id c ih =>
    intro K σ G a w h hR
    refine wp_block (wp_mono (ih h hR) ?_)
    rintro e a' w' ⟨ex, σ', G', rfl, hk, hR'⟩
    cases ex with
    | normal => exact ⟨.normal, σ', G', rfl, hk, hR'⟩
    | ret => exact ⟨.ret, σ', G', rfl, hk, hR'⟩
    | exit k =>
      simp only [toExit, Exit.inBlock]
      cases hb : Nat.beq k id with
      | true =>
        have := Nat.eq_of_beq_eq_true hb
        subst this
        simp only [hb, cond_true] at hk
        rw [if_pos rfl]
        exact ⟨.normal, σ', G', rfl, hk, hR'⟩
      | false =>
        simp only [hb, cond_false] at hk
        rw [if_neg (fun e => by subst e; simp at hb)]
        exact ⟨.exit k, σ', G', rfl, hk, hR'⟩
  | loop c ih =>
    intro K σ G a w h hR
    obtain ⟨X, J, I, μ, x0, hj0, hs, hround⟩ := h
    obtain ⟨G0, hR0⟩ := hR.sub hs
    have key : ∀ n x G a w, J x → μ x < n → Rel w0 (I x) G nt a w → Code.rounds P c (Post w0 nt K) n a w := by
      intro n
      induction n with
      | zero => intro x G a w _ hlt; omega
      | succ n ihn =>
        intro x G a w hj hlt hR
        rw [rounds_succ]
        refine wp_mono (ih (hround x hj) hR) ?_
        rintro e a' w' ⟨ex, σ', G', rfl, hk, hR'⟩
        cases ex with
        | normal =>
          obtain ⟨x', ⟨hj', hlt'⟩, hs'⟩ := hk
          obtain ⟨G'', hR''⟩ := hR'.sub hs'
          exact ihn x' G'' a' w' hj' (by omega) hR''
        | exit id => exact ⟨.exit id, σ', G', rfl, hk, hR'⟩
        | ret => exact ⟨.ret, σ', G', rfl, hk, hR'⟩
    exact wp_loop_rounds _ (key (μ x0 + 1) x0 G0 a w hj0 (by omega) hR0)
  | exit id => intro K σ G a w h hR; exact wp_exit ⟨.exit id, σ, G, rfl, h, hR⟩
  | ret => intro K σ G a w h hR; exact wp_ret ⟨.ret, σ, G, rfl, h, hR⟩
  | _ => intro K σ G a w h hR; exact h.elim

/-! ### Results -/
/-- A cell that goes out: what it becomes, and the objects that go with it. -/
def outS : T → Bool
  | .lst [] => true
  | x => isScal x
theorem outS_none {w : World} {x : T} {v : Value} {F : List Nat} (h : outS x = true) (hr : x.rep w v F) : F = [] := by
  unfold outS at h
  split at h
  · obtain ⟨A, c, _, _, h1⟩ := hr
    rcases h1 with ⟨_, h1⟩ | ⟨_, _, _, _, h2, _⟩
    · exact h1
    · exact absurd rfl h2
  · exact scal_none h hr
def outC (O : List (Nat × Ob)) (x : C) (r : RC) (k : List Nat → Prop) : Prop :=
  match x, r with
  | .t x, .s y => (x = y ∧ outS x = true) ∧ k []
  | .nil, .l _ rows => rows = [] ∧ k []
  | .nil, .w _ rows => rows = [] ∧ k []
  | .ref id, .l sz rows => need (get O id) fun
    | .row true true sz' rows' => (sz' = sz ∧ rows' = rows) ∧ k [id]
    | _ => False
  | .ref id, .w sz rows => need (get O id) fun
    | .row true app sz' rows' => (sz' = sz ∧ rows' = rows) ∧ (app = true ∨ 0 < rows'.length) ∧ k [id]
    | _ => False
  | .view id vsz lo hi, .l sz rows => need (get O id) fun
    | .row true true sz' rows' => (sz' = sz ∧ vsz = sz' ∧ lo < hi ∧ hi ≤ rows'.length ∧ (rows'.take hi).drop lo = rows) ∧ k [id]
    | _ => False
  | .view id vsz lo hi, .w sz rows => need (get O id) fun
    | .row true _app sz' rows' => (sz' = sz ∧ vsz = sz' ∧ lo < hi ∧ hi ≤ rows'.length ∧ (rows'.take hi).drop lo = rows) ∧ k [id]
    | _ => False
  | .view _ _ lo hi, .s (.lst rows) => (hi ≤ lo ∧ rows = []) ∧ k []
  | _, _ => False
def outCs (O : List (Nat × Ob)) : List C → List RC → (List Nat → Prop) → Prop
  | [], [], k => k []
  | x :: xs, r :: rs, k => outC O x r fun i => outCs O xs rs fun j => k (i ++ j)
  | _, _, _ => False
def outV (O : List (Nat × Ob)) (v : AV) (r : RV) (k : List Nat → Prop) : Prop :=
  match v, r with
  | .c x, .one r => outC O x r k
  | .agg xs, .agg rs => outCs O xs rs k
  | _, _ => False
def outVs (O : List (Nat × Ob)) : List AV → List RV → (List Nat → Prop) → Prop
  | [], [], k => k []
  | x :: xs, r :: rs, k => outV O x r fun i => outVs O xs rs fun j => k (i ++ j)
  | _, _, _ => False

/-- The values of the result variables. -/
def resAV (E : Nat → Option TI) (σ : St) : List ResultVar → (List AV → Prop) → Prop
  | [], k => k []
  | .tmp t :: r, k => need (get σ.env t) fun v => resAV E σ r fun vs => k (v :: vs)
  | .cell t ty :: r, k => need (get σ.env t) fun
    | .ptr id off => need (get σ.objs id) fun
      | .box cs => need (E ty) fun ti => loadC ti cs off fun v => resAV E σ r fun vs => k (v :: vs)
      | _ => False
    | _ => False

/-- What the end of a body owes: results that read as 'rs', in memory that lies apart. -/
def retK (E : Nat → Option TI) (res : List ResultVar) (rs : List RV) : Ex → St → Prop
  | .exit _, _ => False
  | _, σ => resAV E σ res fun vs => outVs σ.objs vs rs fun ids => scase (nodupB ids) True False

def initAV : V → AV
  | .one x => .c (ancC x)
  | .agg xs => .agg (xs.map ancC)
def initEnv : Nat → List V → List (Nat × AV)
  | _, [] => []
  | n, x :: r => (n, initAV x) :: initEnv (n + 1) r

section
variable {σ : St} {G : Gh} {a : Act} {w : World}

def resGet (tmps : Array Value) : ResultVar → Sem Value
  | .tmp t => pure (tmps.getD t undef)
  | .cell c t => do loadVar t (← asAddr (tmps.getD c undef))

theorem resAV_sound (hE : TOk P E) (hR : Rel w0 σ G nt a w) : ∀ {res : List ResultVar} {k : List AV → Prop}, resAV E σ res k → ∃ avs vs, k avs ∧ repAVs σ.objs G w avs vs ∧
    (res.mapM (resGet a.tmps)).run P w = .ok vs w
  | [], k, h => ⟨[], [], h, by simp only [repAVs], by simp⟩
  | .tmp t :: r, k, h => by
    obtain ⟨v, ev', h⟩ := need_some h
    obtain ⟨avs, vs, h1, h2, h3⟩ := resAV_sound hE hR h
    refine ⟨v :: avs, a.tmps.getD t undef :: vs, h1, ?_, ?_⟩
    · simp only [repAVs]; exact ⟨_, _, rfl, hR.env t v ev', h2⟩
    · simp only [List.mapM_cons, resGet, Sem.run_bind, Sem.run_pure, Result.andThen_ok, h3]
  | .cell c t :: r, k, h => by
    have h' := need_some h; clear h
    obtain ⟨v, ev', h⟩ := h'
    split at h
    · rename_i id off
      have h' := need_some h; clear h
      obtain ⟨ob, eo, h⟩ := h'
      split at h
      · rename_i cs
        have h' := need_some h; clear h
        obtain ⟨ti, et, h⟩ := h'
        obtain ⟨av, hk, hl⟩ := loadC_sound (hE t ti et) h
        obtain ⟨avs, vs, h1, h2, h3⟩ := resAV_sound hE hR hk
        have hv := hR.env c _ ev'
        simp only [AV.rep] at hv
        obtain ⟨h4, ad, h5, h6⟩ := hv
        obtain ⟨g, us, el, h7, h8, h9, h10⟩ := hR.mem.obs id _ h4 eo
        rw [h5] at h7
        injection h7 with h7
        injection h7 with h7
        subst h7
        obtain ⟨u, h11, h12⟩ := hl σ.objs G w _ us h9 (box_cells h8)
        refine ⟨av :: avs, u :: vs, h1, ?_, ?_⟩
        · simp only [repAVs]; exact ⟨_, _, rfl, h12, h2⟩
        · have e1 : (asAddr (a.tmps.getD c undef)).run P w = .ok ((⟨g, 0, none⟩ : Addr).add off) w := by rw [h6]; rfl
          simp only [List.mapM_cons, resGet, Sem.run_bind, Sem.run_pure, Result.andThen_ok, e1, h11, h3]
      · exact h.elim
    · exact h.elim

theorem flat_cut {css : List (List Value)} {sz : Nat} (h : ∀ cs ∈ css, cs.length = sz) (lo hi : Nat) (h1 : lo ≤ hi) (h2 : hi ≤ css.length) : (css.flatten.drop (lo * sz)).take ((hi - lo) * sz) = ((css.take hi).drop lo).flatten := by
  have key : ∀ (n : Nat) (css : List (List Value)), (∀ cs ∈ css, cs.length = sz) → n ≤ css.length → css.flatten.drop (n * sz) = (css.drop n).flatten ∧ css.flatten.take (n * sz) = (css.take n).flatten := by
    intro n css h hn
    have e : css.flatten = (css.take n).flatten ++ (css.drop n).flatten := by rw [← List.flatten_append, List.take_append_drop]
    have hl : (css.take n).flatten.length = n * sz := by
      rw [flat_length (fun cs hcs => h cs (List.mem_of_mem_take hcs)), List.length_take, Nat.min_eq_left hn]
    rw [e, ← hl]
    exact ⟨List.drop_left, List.take_left⟩
  rw [(key lo css h (by omega)).1, (key (hi - lo) (css.drop lo) (fun cs hcs => h cs (List.mem_of_mem_drop hcs)) (by rw [List.length_drop]; omega)).2, List.drop_take]
theorem outC_sound (hM : Mem w0 σ.objs G w) {x : C} {r : RC} {k : List Nat → Prop} (h : outC σ.objs x r k) {v : Value} (hr : x.rep σ.objs G w v) :
    ∃ ids F, k ids ∧ r.rep w v F ∧ (∀ i ∈ ids, Lv σ.objs G i) ∧ (F.Nodup ∧ ∀ b ∈ F, ∃ i, i ∈ ids ∧ b ∈ G.Φ i) := by
  unfold outC at h
  split at h
  · obtain ⟨⟨rfl, hs⟩, h⟩ := h
    obtain ⟨F, h1, _⟩ := hr
    have := outS_none hs h1
    subst this
    exact ⟨[], [], h, ⟨h1, rfl⟩, by simp, by simp⟩
  · obtain ⟨rfl, h⟩ := h
    have hv : v = .slice none 0 0 := hr
    subst hv
    exact ⟨[], [], h, ⟨[], [], by simp [repRows], by simp, ⟨by simp, .inl ⟨none, rfl, rfl⟩⟩, by simp [hd]⟩, by simp, by simp⟩
  · obtain ⟨rfl, h⟩ := h
    have hv : v = .slice none 0 0 := hr
    subst hv
    exact ⟨[], [], h, ⟨[], [], by simp [repRows], by simp, ⟨none, 0, rfl, Nat.le_refl _, fun h => absurd h (by simp)⟩, by simp [hd]⟩, by simp, by simp⟩
  · rename_i id sz rows
    have h' := need_some h; clear h
    obtain ⟨ob, eo, h⟩ := h'
    split at h
    · obtain ⟨⟨rfl, rfl⟩, h⟩ := h
      obtain ⟨h1, h2, _⟩ := hr
      subst h2
      have hlv : Lv σ.objs G id := ⟨h1, _, eo⟩
      obtain ⟨css, F', h3, h4, h5, h6⟩ := hM.obs id _ h1 eo
      simp only [if_true] at h5 h6
      rw [h5.2] at h6
      exact ⟨[id], _, h, ⟨css, F', h3, h4, h5.1, rfl⟩, by simpa using hlv, by rw [← h6]; exact hM.nodup id hlv, fun b hb => ⟨id, by simp, by rw [h6]; exact hb⟩⟩
    · exact h.elim
  · rename_i id sz rows
    have h' := need_some h; clear h
    obtain ⟨ob, eo, h⟩ := h'
    split at h
    · rename_i app sz' rows'
      obtain ⟨⟨rfl, rfl⟩, happ, h⟩ := h
      obtain ⟨h1, h2, _⟩ := hr
      subst h2
      have hlv : Lv σ.objs G id := ⟨h1, _, eo⟩
      obtain ⟨css, F', h3, h4, h5, h6⟩ := hM.obs id _ h1 eo
      simp only [if_true] at h6
      have hw : RowWeak w (G.φ id) rows'.length sz' css ∧ G.h id = hd (G.φ id) := by
        cases app with
        | true => simp only [if_true] at h5; exact ⟨h5.1.weak h4, h5.2⟩
        | false =>
          simp only [Bool.false_eq_true, if_false] at h5
          refine ⟨h5.1, ?_⟩
          rcases h5.2 with h | ⟨hr0, _⟩
          · exact h
          · rcases happ with h | h
            · cases h
            · rw [hr0] at h; simp at h
      rw [hw.2] at h6
      replace hw := hw.1
      exact ⟨[id], _, h, ⟨css, F', h3, h4, hw, rfl⟩, by simpa using hlv, by rw [← h6]; exact hM.nodup id hlv, fun b hb => ⟨id, by simp, by rw [h6]; exact hb⟩⟩
    · exact h.elim
  · rename_i id vsz lo hi sz rows
    have h' := need_some h; clear h
    obtain ⟨ob, eo, h⟩ := h'
    split at h
    · rename_i sz' rows'
      obtain ⟨⟨rfl, rfl, hlt, hle, rfl⟩, h⟩ := h
      obtain ⟨h1, h2, A, c, h3, h0, h4⟩ := hr
      obtain ⟨ad, n, c', h5, rfl, _, hcc⟩ := h4 hlt
      have hlv : Lv σ.objs G id := ⟨h1, _, eo⟩
      obtain ⟨css, F', h6, h7, h8, h9⟩ := hM.obs id _ h1 eo
      simp only [if_true] at h8 h9
      obtain ⟨hO, hHd⟩ := h8
      rw [hHd] at h9
      have hfl := hO.1
      rcases hO.2 with ⟨B, _, hn0⟩ | ⟨g, o, cap, cur, e, hφ, hp, hh, hnc, hcm, hcs, htk⟩
      · omega
      rw [h5] at hφ
      injection hφ with e1 e2 e3
      injection e1 with e1
      subst e1 e2 e3
      obtain ⟨F1, F2, rfl, r1, r2⟩ := repRows_cut hi h6
      obtain ⟨F3, F4, rfl, r3, r4⟩ := repRows_cut lo r1
      have hlen : ((rows'.take hi).drop lo).length = hi - lo := by rw [List.length_drop, List.length_take, Nat.min_eq_left hle]
      have h7' : ∀ cs ∈ (css.take hi).drop lo, cs.length = vsz := fun cs hcs => h7 cs (List.mem_of_mem_take (List.mem_of_mem_drop hcs))
      have hcl : css.length = rows'.length := repRows_length h6
      have hlen2 : ((css.take hi).drop lo).length = hi - lo := by rw [List.length_drop, List.length_take, Nat.min_eq_left (by omega)]
      have hhd : hd v = hd (G.φ id) := by
        rw [h3, h5]
        cases c with
        | zero => omega
        | succ c =>
          cases c' with
          | zero => omega
          | succ c' => simp [hd, block_of_add]
      have hnd := hM.nodup id hlv
      rw [h9, List.nodup_append] at hnd
      obtain ⟨n1, n2, n3⟩ := hnd
      have hmul : c' * vsz = lo * vsz + c * vsz := by rw [← hcc, Nat.add_comm, Nat.add_mul]
      have hcut : (css.flatten.drop (lo * vsz)).take ((hi - lo) * vsz) = ((css.take hi).drop lo).flatten := flat_cut h7 lo hi (Nat.le_of_lt hlt) (by omega)
      refine ⟨[id], _, h, ⟨(css.take hi).drop lo, F4, r4, h7', ⟨by rw [flat_length h7', hlen, hlen2], .inr ⟨g, o + lo * vsz, c, cur, e, by rw [h3, hlen, Addr.add_lit], by omega, hh, by omega, by omega, by omega, ?_⟩⟩, rfl⟩, by simpa using hlv, ?_, fun b hb => ⟨id, by simp, ?_⟩⟩
      · rw [hlen, ← hcut, ← htk, List.drop_take, List.drop_drop, List.take_take, Nat.min_eq_left]
        rw [← Nat.sub_mul]
        exact Nat.mul_le_mul_right _ (by omega)
      · rw [hhd]
        refine List.nodup_append.2 ⟨n1, ?_, fun x hx y hy => n3 x hx y (by simp [hy])⟩
        rw [List.append_assoc, List.nodup_append] at n2
        exact (List.nodup_append.1 n2.2.1).1
      · rw [hhd] at hb
        rw [h9]
        rcases List.mem_append.1 hb with hb | hb <;> simp [hb]
    · exact h.elim
  · rename_i id vsz lo hi sz rows
    have h' := need_some h; clear h
    obtain ⟨ob, eo, h⟩ := h'
    split at h
    · rename_i app sz' rows'
      obtain ⟨⟨rfl, rfl, hlt, hle, rfl⟩, h⟩ := h
      obtain ⟨h1, h2, A, c, h3, h0, h4⟩ := hr
      obtain ⟨ad, n, c', h5, rfl, _⟩ := h4 hlt
      have hlv : Lv σ.objs G id := ⟨h1, _, eo⟩
      obtain ⟨css, F', h6, h7, h8, h9⟩ := hM.obs id _ h1 eo
      simp only [if_true] at h9
      have hw : RowWeak w (G.φ id) rows'.length vsz css := by
        cases app with
        | true => simp only [if_true] at h8; exact h8.1.weak h7
        | false => simp only [Bool.false_eq_true, if_false] at h8; exact h8.1
      have hHd : G.h id = hd (G.φ id) := by
        cases app with
        | true => simp only [if_true] at h8; exact h8.2
        | false =>
          simp only [Bool.false_eq_true, if_false] at h8
          rcases h8.2 with h | ⟨hr0, _⟩
          · exact h
          · rw [hr0] at hle; simp at hle; omega
      rw [hHd] at h9
      obtain ⟨A', c2, h10, h11, h12⟩ := hw
      rw [h5] at h10
      injection h10 with e1 e2 e3
      subst e2 e3
      obtain ⟨ad', e4, hcell, hgrid⟩ := h12 (by omega)
      rw [e4] at e1
      injection e1 with e1
      subst e1
      obtain ⟨F1, F2, rfl, r1, r2⟩ := repRows_cut hi h6
      obtain ⟨F3, F4, rfl, r3, r4⟩ := repRows_cut lo r1
      have hlen : ((rows'.take hi).drop lo).length = hi - lo := by rw [List.length_drop, List.length_take, Nat.min_eq_left hle]
      have hhd : hd v = hd (G.φ id) := by
        rw [h3, h5]
        cases c with
        | zero => omega
        | succ c =>
          cases c' with
          | zero => omega
          | succ c' => simp [hd, block_of_add]
      have hnd := hM.nodup id hlv
      rw [h9, List.nodup_append] at hnd
      obtain ⟨n1, n2, n3⟩ := hnd
      refine ⟨[id], _, h, ⟨(css.take hi).drop lo, F4, r4, fun cs hcs => h7 cs (List.mem_of_mem_take (List.mem_of_mem_drop hcs)), ⟨_, c, by rw [hlen]; exact h3, by rw [hlen]; exact h0, fun _ => ⟨_, rfl, by rw [block_of_add]; exact hcell, fun i cs hi2 j u hu => ?_⟩⟩, rfl⟩, by simpa using hlv, ?_, fun b hb => ⟨id, by simp, ?_⟩⟩
      · rw [List.getElem?_drop] at hi2
        have hlt2 : lo + i < hi := by have := (List.getElem?_eq_some_iff.1 hi2).1; simp at this; omega
        rw [List.getElem?_take_of_lt hlt2] at hi2
        rw [add_of_add, ← Nat.add_assoc, ← Nat.add_mul]
        exact hgrid (lo + i) cs hi2 j u hu
      · rw [hhd]
        refine List.nodup_append.2 ⟨n1, ?_, fun x hx y hy => n3 x hx y (by simp [hy])⟩
        rw [List.append_assoc, List.nodup_append] at n2
        exact (List.nodup_append.1 n2.2.1).1
      · rw [hhd] at hb
        rw [h9]
        rcases List.mem_append.1 hb with hb | hb <;> simp [hb]
    · exact h.elim
  · obtain ⟨⟨hle, rfl⟩, h⟩ := h
    obtain ⟨_, _, A, c, h3, h0, _⟩ := hr
    have e0 : ∀ {lo hi : Nat}, hi ≤ lo → hi - lo = 0 := fun h => by omega
    refine ⟨[], [], h, ⟨?_, rfl⟩, by simp, by simp⟩
    simp only [T.rep]
    refine ⟨A, c, by rw [h3, e0 hle]; rfl, Nat.zero_le _, ?_⟩
    simp
  · exact h.elim

theorem outs_join {ids1 ids2 : List Nat} {F1 F2 : List Nat} (hM : Mem w0 σ.objs G w) (h1 : (∀ i ∈ ids1, Lv σ.objs G i) ∧ (F1.Nodup ∧ ∀ b ∈ F1, ∃ i, i ∈ ids1 ∧ b ∈ G.Φ i)) (h2 : (∀ i ∈ ids2, Lv σ.objs G i) ∧ ((ids2.Nodup → F2.Nodup) ∧ ∀ b ∈ F2, ∃ i, i ∈ ids2 ∧ b ∈ G.Φ i)) :
    (∀ i ∈ ids1 ++ ids2, Lv σ.objs G i) ∧ (((ids1 ++ ids2).Nodup → (F1 ++ F2).Nodup) ∧ ∀ b ∈ F1 ++ F2, ∃ i, i ∈ ids1 ++ ids2 ∧ b ∈ G.Φ i) := by
  refine ⟨fun i hi => ?_, fun hn => ?_, fun b hb => ?_⟩
  · rcases List.mem_append.1 hi with hi | hi
    · exact h1.1 i hi
    · exact h2.1 i hi
  · obtain ⟨n1, n2, n3⟩ := List.nodup_append.1 hn
    refine List.nodup_append.2 ⟨h1.2.1, h2.2.1 n2, fun x hx y hy e => ?_⟩
    subst e
    obtain ⟨i, hi, hxi⟩ := h1.2.2 x hx
    obtain ⟨j, hj, hxj⟩ := h2.2.2 x hy
    exact hM.disj i j (h1.1 i hi) (h2.1 j hj) (n3 i hi j hj) x hxi hxj
  · rcases List.mem_append.1 hb with hb | hb
    · obtain ⟨i, hi, hbi⟩ := h1.2.2 b hb; exact ⟨i, by simp [hi], hbi⟩
    · obtain ⟨i, hi, hbi⟩ := h2.2.2 b hb; exact ⟨i, by simp [hi], hbi⟩
theorem outs_join' {ids1 ids2 : List Nat} {F1 F2 : List Nat} (hM : Mem w0 σ.objs G w) (h1 : (∀ i ∈ ids1, Lv σ.objs G i) ∧ ((ids1.Nodup → F1.Nodup) ∧ ∀ b ∈ F1, ∃ i, i ∈ ids1 ∧ b ∈ G.Φ i)) (h2 : (∀ i ∈ ids2, Lv σ.objs G i) ∧ ((ids2.Nodup → F2.Nodup) ∧ ∀ b ∈ F2, ∃ i, i ∈ ids2 ∧ b ∈ G.Φ i)) :
    (∀ i ∈ ids1 ++ ids2, Lv σ.objs G i) ∧ (((ids1 ++ ids2).Nodup → (F1 ++ F2).Nodup) ∧ ∀ b ∈ F1 ++ F2, ∃ i, i ∈ ids1 ++ ids2 ∧ b ∈ G.Φ i) := by
  refine ⟨fun i hi => ?_, fun hn => ?_, fun b hb => ?_⟩
  · rcases List.mem_append.1 hi with hi | hi
    · exact h1.1 i hi
    · exact h2.1 i hi
  · obtain ⟨n1, n2, n3⟩ := List.nodup_append.1 hn
    exact ((outs_join hM ⟨h1.1, h1.2.1 n1, h1.2.2⟩ h2).2.1 hn)
  · rcases List.mem_append.1 hb with hb | hb
    · obtain ⟨i, hi, hbi⟩ := h1.2.2 b hb; exact ⟨i, by simp [hi], hbi⟩
    · obtain ⟨i, hi, hbi⟩ := h2.2.2 b hb; exact ⟨i, by simp [hi], hbi⟩

theorem outCs_sound (hM : Mem w0 σ.objs G w) : ∀ {xs : List C} {rs : List RC} {k : List Nat → Prop} {vs : List Value}, outCs σ.objs xs rs k → repCs σ.objs G w xs vs →
    ∃ ids F, k ids ∧ repRCs w rs vs F ∧ (∀ i ∈ ids, Lv σ.objs G i) ∧ ((ids.Nodup → F.Nodup) ∧ ∀ b ∈ F, ∃ i, i ∈ ids ∧ b ∈ G.Φ i)
  | [], [], k, vs, h, hr => ⟨[], [], h, ⟨hr, rfl⟩, by simp, by simp⟩
  | x :: xs, r :: rs, k, vs, h, ⟨v, vs', h1, h2, h3⟩ => by
    subst h1
    obtain ⟨i1, F1, a1, a2, a3, a4⟩ := outC_sound hM h h2
    obtain ⟨i2, F2, b1, b2, b3, b4⟩ := outCs_sound hM a1 h3
    exact ⟨i1 ++ i2, F1 ++ F2, b1, ⟨v, vs', F1, F2, rfl, rfl, a2, b2⟩, outs_join hM ⟨a3, a4⟩ ⟨b3, b4⟩⟩
  | [], r :: rs, k, vs, h, _ => h.elim
  | x :: xs, [], k, vs, h, _ => h.elim
theorem outV_sound (hM : Mem w0 σ.objs G w) {x : AV} {r : RV} {k : List Nat → Prop} {v : Value} (h : outV σ.objs x r k) (hr : x.rep σ.objs G w v) :
    ∃ ids F, k ids ∧ r.rep w v F ∧ (∀ i ∈ ids, Lv σ.objs G i) ∧ ((ids.Nodup → F.Nodup) ∧ ∀ b ∈ F, ∃ i, i ∈ ids ∧ b ∈ G.Φ i) := by
  unfold outV at h
  split at h
  · simp only [AV.rep] at hr
    obtain ⟨i1, F1, a1, a2, a3, a4⟩ := outC_sound hM h hr
    exact ⟨i1, F1, a1, a2, a3, fun _ => a4.1, a4.2⟩
  · simp only [AV.rep] at hr
    obtain ⟨vs, h1, h2⟩ := hr
    obtain ⟨i1, F1, a1, a2, a3, a4⟩ := outCs_sound hM h h2
    exact ⟨i1, F1, a1, ⟨vs, h1, a2⟩, a3, a4⟩
  · exact h.elim
theorem outVs_sound (hM : Mem w0 σ.objs G w) : ∀ {xs : List AV} {rs : List RV} {k : List Nat → Prop} {vs : List Value}, outVs σ.objs xs rs k → repAVs σ.objs G w xs vs →
    ∃ ids F, k ids ∧ repRVs w rs vs F ∧ (∀ i ∈ ids, Lv σ.objs G i) ∧ ((ids.Nodup → F.Nodup) ∧ ∀ b ∈ F, ∃ i, i ∈ ids ∧ b ∈ G.Φ i)
  | [], [], k, vs, h, hr => ⟨[], [], h, ⟨by simpa only [repAVs] using hr, rfl⟩, by simp, by simp⟩
  | x :: xs, r :: rs, k, vs, h, hr => by
    simp only [repAVs] at hr
    obtain ⟨v, vs', h1, h2, h3⟩ := hr
    subst h1
    obtain ⟨i1, F1, a1, a2, a3, a4⟩ := outV_sound hM h h2
    obtain ⟨i2, F2, b1, b2, b3, b4⟩ := outVs_sound hM a1 h3
    exact ⟨i1 ++ i2, F1 ++ F2, b1, ⟨v, vs', F1, F2, rfl, rfl, a2, b2⟩, outs_join' hM ⟨a3, a4⟩ ⟨b3, b4⟩⟩
  | [], r :: rs, k, vs, h, _ => h.elim
  | x :: xs, [], k, vs, h, _ => h.elim

theorem run_results {fn : Func} {tmps : Array Value} {vs : List Value} (h : (fn.results.toList.mapM (resGet tmps)).run P w = .ok vs w) :
    ∃ v, retOf vs v ∧ (results fn tmps).run P w = .ok v w := by
  have hm : (fn.results.mapM (resGet tmps)).run P w = .ok vs.toArray w := by
    rw [Array.mapM_eq_mapM_toList, Sem.run_map, h]
    rfl
  have hr : results fn tmps = (do
      let vs ← fn.results.mapM (resGet tmps)
      pure (if h : vs.size = 1 then vs[0] else .tuple vs)) := by
    unfold results
    congr 1
  rw [hr, Sem.run_bind, hm]
  match vs with
  | [x] => exact ⟨x, rfl, rfl⟩
  | [] => exact ⟨.tuple #[], rfl, rfl⟩
  | x :: y :: zs => exact ⟨_, rfl, by simp⟩

theorem initEnv_get : ∀ {args : List V} {n k : Nat} {v : AV}, get (initEnv n args) k = some v → ∃ j x, k = n + j ∧ args[j]? = some x ∧ v = initAV x
  | [], n, k, v, h => by cases h
  | x :: r, n, k, v, h => by
    have : get (initEnv n (x :: r)) k = bif Nat.beq n k then some (initAV x) else get (initEnv (n + 1) r) k := rfl
    rw [this] at h
    cases hb : Nat.beq n k with
    | true =>
      have e := Nat.eq_of_beq_eq_true hb
      simp only [hb, cond_true, Option.some.injEq] at h
      exact ⟨0, x, by omega, rfl, h.symm⟩
    | false =>
      simp only [hb, cond_false] at h
      obtain ⟨j, y, h1, h2, h3⟩ := initEnv_get h
      exact ⟨j + 1, y, by omega, by simpa using h2, h3⟩

/-- THE CONTRACT OF A FUNCTION, FROM THE EVALUATION OF ITS BODY. -/
theorem fnAt_of_ev (hE : TOk P E) (hdraw : ∀ (nt : Nat) (w0 : Base) (id : Nat) (ops : Array Oper) (K : St → Prop) (σ : St) (G : Gh) (a : Act) (w : World), drawOK ops = true → evOps P E nt false ops ops.toList K σ → Rel w0 σ G nt a w →
      (Code.region id ops true).wp P (Post w0 nt fun e σ' => e = .normal ∧ K σ') a w)
    (hdrawD : ∀ (nt : Nat) (w0 : Base) (id : Nat) (ops : Array Oper) (bid : Nat) (K : St → Prop) (σ : St) (G : Gh) (a : Act) (w : World), drawOK ops = true → (∃ c, get σ.objs bid = some c) → evOpsD P E nt ops bid ops.toList K σ → Rel w0 σ G nt a w →
      (Code.region id ops true).wp P (Post w0 nt fun e σ' => e = .normal ∧ K σ') a w)
    {f : FuncId} {fn : Func} {c : Code} (hf : P.funcs[f]? = some fn) (hb : fn.body = some c) (hn : (fn.name == "runtime.NumGoroutine") = false) {args : List V} {rs : List RV} (hlen : Nat.ble args.length fn.ntmps = true)
    (h : ev P E fn.ntmps c (retK E fn.results.toList rs) ⟨initEnv 0 args, [], 0⟩) : FnAt P f args rs := by
  refine ⟨⟨fn, c, hf, hb, hn⟩, fun w vs hvs => ?_⟩
  have hlen' := Nat.le_of_ble_eq_true hlen
  have hvl : ∀ {as : List V} {us : List Value}, repVs w as us → us.length = as.length := by
    intro as
    induction as with
    | nil => intro us h; simp only [repVs] at h; simp [h]
    | cons x xs ih => intro us h; obtain ⟨v, vs', F, h1, _, h3⟩ := h; subst h1; simp [ih h3]
  have hget : ∀ {as : List V} {us : List Value} {j : Nat} {x : V}, repVs w as us → as[j]? = some x → ∃ u F, us[j]? = some u ∧ x.rep w u F := by
    intro as
    induction as with
    | nil => intro us j x _ hj; simp at hj
    | cons y ys ih =>
      intro us j x h hj
      obtain ⟨v, vs', F, h1, h2, h3⟩ := h
      subst h1
      cases j with
      | zero => simp at hj; subst hj; exact ⟨v, F, by simp, h2⟩
      | succ j => obtain ⟨u, F', h4, h5⟩ := ih h3 (by simpa using hj); exact ⟨u, F', by simpa using h4, h5⟩
  let G0 : Gh := ⟨fun _ => False, fun _ => undef, fun _ => [], fun _ => [], fun b => b < w.heap.size, undef⟩
  have himm : ∀ F, Imm [] G0 F := fun F id hl => hl.1.elim
  have hsz : (vs.toArray ++ Array.replicate (fn.ntmps - vs.toArray.size) undef).size = fn.ntmps := by
    have := hvl hvs
    simp
    omega
  have hR : Rel ⟨w, [], fun b => b < w.heap.size, undef⟩ ⟨initEnv 0 args, [], 0⟩ G0 fn.ntmps { tmps := vs.toArray ++ Array.replicate (fn.ntmps - vs.toArray.size) undef, defers := [] } w := by
    refine ⟨⟨⟨rfl, rfl, rfl, Nat.le_refl _, fun _ _ _ => rfl⟩, fun _ h => h, ⟨rfl, rfl⟩, fun id o ha => ha.elim, fun id hl => hl.1.elim, fun i j hi => hi.1.elim, fun id hl => hl.1.elim, fun id hl => hl.1.elim⟩, fun k v hk => ?_, fun k v hk => ?_, hsz, fun j hj => hj.elim, fun id o ho => (by cases ho), rfl⟩
    · obtain ⟨j, x, h1, h2, h3⟩ := initEnv_get hk
      have hkj : k = j := by omega
      subst hkj
      obtain ⟨u, F, h4, h5⟩ := hget hvs h2
      have hk' : k < vs.length := (List.getElem?_eq_some_iff.1 h4).1
      have hv : (vs.toArray ++ Array.replicate (fn.ntmps - vs.toArray.size) undef).getD k undef = u := by
        rw [Array.getD_eq_getD_getElem?, Array.getElem?_append_left (by simpa using hk')]
        simp [h4]
      simp only [hv]
      subst h3
      have hlt := V.rep_lt x u F h5
      cases x with
      | one x => simp only [initAV, AV.rep]; exact ancC_rep h5 (himm F) hlt
      | agg xs =>
        obtain ⟨us, h6, h7⟩ := h5
        simp only [initAV, AV.rep]
        exact ⟨us, h6, ancCs_rep h7 (himm F) hlt⟩
    · obtain ⟨j, x, h1, h2, _⟩ := initEnv_get hk
      have := (List.getElem?_eq_some_iff.1 h2).1
      omega
  refine calls_of_wp hf hb (wp_mono (ev_sound hE (hdraw fn.ntmps _) (hdrawD fn.ntmps _) c h hR) ?_)
  rintro e a' w' ⟨ex, σ', G', rfl, hk, hR'⟩
  have fin : (resAV E σ' fn.results.toList fun vs => outVs σ'.objs vs rs fun ids => scase (nodupB ids) True False) → a'.defers = [] ∧ ∃ v, (results fn a'.tmps).run P w' = .ok v w' ∧
      ∃ us F v', Ending.returned v = .returned v' ∧ retOf us v' ∧ repRVs w' rs us F ∧ F.Nodup ∧ (∀ b ∈ F, w.heap.size ≤ b ∧ ∃ arr e, w'.heap[b]? = some (.cells arr e (0, 0))) ∧ Below w.heap.size w w' := by
    intro hk
    obtain ⟨avs, us, h1, h2, h3⟩ := resAV_sound hE hR' hk
    obtain ⟨ids, F, h4, h5, h6, h7, h8⟩ := outVs_sound hR'.mem h1 h2
    obtain ⟨v, h9, h10⟩ := run_results h3
    exact ⟨hR'.defers, v, h10, us, F, v, rfl, h9, h5, h7 (nodupB_iff (by rcases scase_out h4 with ⟨h, _⟩ | ⟨_, h⟩ <;> first | exact h | exact h.elim)), fun b hb => by
      obtain ⟨i, hi, hbi⟩ := h8 b hb
      obtain ⟨⟨h11, _⟩, h12⟩ := hR'.mem.lo i (h6 i hi) b hbi
      exact ⟨by simpa using h11, h12⟩, ⟨hR'.mem.below.os, hR'.mem.below.tape, hR'.mem.below.output, hR'.mem.below.size, fun b hb => hR'.mem.below.block b hb (by simp)⟩⟩
  cases ex with
  | normal => exact fin hk
  | ret => exact fin hk
  | exit id => exact hk.elim
end
end
end Go.Vm

namespace Go.Vm
open Go.RowKit

theorem fieldsOk_of {P : Program} {fs : Array Field} (h : (fs.toList.all fun f => match P.info? f.type with | some i => i.size != 0 | none => false) = true) : ∀ f ∈ fs.toList, ∃ i, P.info? f.type = some i ∧ i.size ≠ 0 := by
  intro f hf
  have := List.all_eq_true.1 h f hf
  split at this
  · rename_i i hi
    exact ⟨i, hi, by simpa using this⟩
  · cases this

def aggD : TypeDesc → Bool
  | .struct _ => true
  | .array _ _ => true
  | _ => false

theorem TIok.mk_ {P : Program} {t : Nat} {ti : TI} {z : Value} {d : TypeDesc} (h1 : (P.info? t).map (fun i => (i.size, i.bytes, i.zero)) = some (ti.size, ti.bytes, some z)) (hz : z.cells = (ti.zero.map C.plain).toArray) (hz2 : z.cells.size = ti.size)
    (hd : P.underlying t = some d) (ha : aggD d = ti.agg) (hk : TKok P d ti.k) (hp : ti.zero.all C.isPlain = true)
    (he : ti.cmp = true → P.eqGuardType P.depth t = false ∧ ∀ (xs ys : List Int) (w : World), xs.length = ti.size → ys.length = ti.size →
      (Op.equal t (.agg (xs.map (Value.int .i64)).toArray) (.agg (ys.map (Value.int .i64)).toArray)).run P w = .ok (xs == ys) w) : TIok P t ti := by
  refine ⟨?_, ⟨d, hd, by rw [← ha]; cases d <;> rfl, hk⟩, hp, he⟩
  cases hi : P.info? t with
  | none => rw [hi] at h1; cases h1
  | some i =>
    rw [hi] at h1
    simp only [Option.map_some, Option.some.injEq, Prod.mk.injEq] at h1
    exact ⟨i, z, rfl, h1.1, h1.2.1, h1.2.2, hz, hz2⟩

theorem tok_of {P : Program} {l : List (Nat × TI)} (h : ∀ p ∈ l, TIok P p.1 p.2) : TOk P (get l) := by
  intro t ti hg
  induction l with
  | nil => cases hg
  | cons p r ih =>
    obtain ⟨k, v⟩ := p
    cases hb : Nat.beq k t with
    | true =>
      have := Nat.eq_of_beq_eq_true hb
      subst this
      simp only [get, hb, cond_true, Option.some.injEq] at hg
      subst hg
      exact h (k, v) (by simp)
    | false => simp only [get, hb, cond_false] at hg; exact ih (fun q hq => h q (by simp [hq])) hg

/-- A struct whose cells are all ints, compared cell by cell. -/
theorem eqFields_ints {P : Program} {xs ys : List Int} {w : World} : ∀ (fs : List Field) (k : Nat), (∀ f ∈ fs, f.name ≠ "_" ∧ P.underlying f.type = some (.int .i64)) → (fs.map (·.offset)) = List.range' k fs.length → k + fs.length = xs.length → ys.length = xs.length → ∀ d,
    (Op.eqFields (d + 1) (xs.map (Value.int .i64)).toArray (ys.map (Value.int .i64)).toArray fs).run P w = .ok (xs.drop k == ys.drop k) w
  | [], k, _, _, h3, h4, d => by
    simp only [List.length_nil, Nat.add_zero] at h3
    rw [List.drop_of_length_le (by omega), List.drop_of_length_le (by omega)]
    simp [Op.eqFields]
  | f :: fs, k, h1, h2, h3, h4, d => by
    simp only [List.map_cons, List.length_cons, List.range'_succ, List.cons.injEq] at h2
    simp only [List.length_cons] at h3
    obtain ⟨hn, hu⟩ := h1 f (by simp)
    have ih := eqFields_ints (xs := xs) (ys := ys) (w := w) fs (k + 1) (fun g hg => h1 g (by simp [hg])) h2.2 (by omega) h4 d
    have hx : k < xs.length := by omega
    have hy : k < ys.length := by omega
    have hpart : ∀ (zs : List Int) (hz : k < zs.length) (w : World), (part f.type (zs.map (Value.int .i64)).toArray f.offset).run P w = .ok (.int .i64 zs[k]) w := fun zs hz w => by
      simp [part, isAgg, run_underlying hu, h2.1, hz]
    have hag : ∀ (w : World) (a b : Int), (Op.equalIn (d + 1) f.type (.int .i64 a) (.int .i64 b)).run P w = .ok (a == b) w := fun w a b => by
      simp [Op.equalIn, run_underlying hu]
    simp only [Op.eqFields, if_pos hn, Sem.run_bind, hpart xs hx, hpart ys hy, Result.andThen_ok, hag]
    rw [List.drop_eq_getElem_cons hx, List.drop_eq_getElem_cons hy]
    cases hb : (xs[k] == ys[k]) with
    | false => simp only [Bool.not_false, if_true, Sem.run_pure, List.cons_beq_cons, hb, Bool.false_and]
    | true => simp only [Bool.not_true, Bool.false_eq_true, if_false, ih, List.cons_beq_cons, hb, Bool.true_and]

theorem tiEq_of (P : Program) (t : Nat) (ti : TI) {fs : Array Field} (h1 : P.eqGuardType P.depth t = false) (h2 : P.stoodInHeld t = false) (hd : P.underlying t = some (.struct fs)) (hsz : fs.size = ti.size)
    (hf : ((fs.toList.all fun f => f.name != "_" && (match P.underlying f.type with | some (.int .i64) => true | _ => false)) && (fs.toList.map (·.offset) == List.range' 0 fs.toList.length)) = true) :
    ti.cmp = true → P.eqGuardType P.depth t = false ∧ ∀ (xs ys : List Int) (w : World), xs.length = ti.size → ys.length = ti.size →
      (Op.equal t (.agg (xs.map (Value.int .i64)).toArray) (.agg (ys.map (Value.int .i64)).toArray)).run P w = .ok (xs == ys) w := by
  intro _
  refine ⟨h1, fun xs ys w hx hy => ?_⟩
  simp only [Bool.and_eq_true] at hf
  have hfo : P.fieldsOf t = fs := by simp [Program.fieldsOf, hd]
  have hr := run_equalIn_struct (P := P) w 9999 t (xs.map (Value.int .i64)).toArray (ys.map (Value.int .i64)).toArray (by rw [hfo]; exact hd) h2
  rw [hfo] at hr
  have h9 := eqFields_ints (P := P) (xs := xs) (ys := ys) (w := w) fs.toList 0 (fun f hff => by
    have := List.all_eq_true.1 hf.1 f hff
    simp only [Bool.and_eq_true] at this
    refine ⟨by simpa using this.1, ?_⟩
    have h3 := this.2
    split at h3
    · assumption
    · cases h3) (by simpa using hf.2) (by simp; omega) (by omega) 9998
  show (Op.equalIn 10000 t _ _).run P w = _
  rw [hr, h9]
  simp
end Go.Vm
