/-
  Functions that write in place: their contract, and what a call of one does to a state.
  The contract of a function that is called with a pointer to a box, and what such a call does to a state.
  Conditions: the table of types fits the program ('TOk').
-/
import Derived.Test.YtpipfobdfcnghaaVmM
namespace Go.Vm
open Go.RowKit

/-! ### What a write in place leaves alone -/
def safeC : C → Bool
  | .t x => isScal x
  | _ => true
def safeAV : AV → Bool
  | .c x => safeC x
  | .agg xs => xs.all safeC
  | .pin (.c x) => safeC x
  | .pin (.ptr ..) => true
  | .pin (.agg xs) => xs.all safeC
  | .ptr .. | .iptr .. | .junk | .nilq _ | .any => true
  | _ => false
def safeOb : Ob → Bool
  | .box cs => cs.all safeC
  | .row own .. => own
  | .tmp _ rows => rows.all fun r => r.all safeC
  | .vw _ => false
def filtD {α : Type} (p : α → Bool) : List Nat → List (Nat × α) → List (Nat × α)
  | _, [] => []
  | dead, (k, v) :: r => bif notIn k dead then (bif p v then (k, v) :: filtD p (k :: dead) r else filtD p (k :: dead) r) else filtD p dead r

theorem notIn_of {n : Nat} : ∀ {l : List Nat}, n ∉ l → notIn n l = true
  | [], _ => rfl
  | k :: r, h => by
    simp only [List.mem_cons, not_or] at h
    simp only [notIn, beq_ne h.1, notIn_of h.2, Bool.not_false, Bool.and_self]
theorem get_filtD {α : Type} {p : α → Bool} : ∀ {dead : List Nat} {l : List (Nat × α)} {k : Nat} {v : α}, get (filtD p dead l) k = some v → k ∉ dead ∧ get l k = some v ∧ p v = true
  | dead, [], k, v, h => by cases h
  | dead, (q, u) :: r, k, v, h => by
    cases hq : notIn q dead with
    | false =>
      simp only [filtD, hq, cond_false] at h
      obtain ⟨h1, h2, h3⟩ := get_filtD h
      have hne : q ≠ k := fun e => by subst e; rw [notIn_of h1] at hq; cases hq
      exact ⟨h1, by rw [get_cons_other _ _ _ _ (Ne.symm hne)]; exact h2, h3⟩
    | true =>
      have hq' := notIn_iff hq
      cases hp : p u with
      | true =>
        simp only [filtD, hq, hp, cond_true] at h
        by_cases e : k = q
        · subst e
          rw [get_cons_same] at h
          injection h with h
          subst h
          exact ⟨hq', get_cons_same _ _ _, hp⟩
        · rw [get_cons_other _ _ _ _ e] at h
          obtain ⟨h1, h2, h3⟩ := get_filtD h
          simp only [List.mem_cons, not_or] at h1
          exact ⟨h1.2, by rw [get_cons_other _ _ _ _ e]; exact h2, h3⟩
      | false =>
        simp only [filtD, hq, hp, cond_true, cond_false] at h
        obtain ⟨h1, h2, h3⟩ := get_filtD h
        simp only [List.mem_cons, not_or] at h1
        exact ⟨h1.2, by rw [get_cons_other _ _ _ _ h1.1]; exact h2, h3⟩

section
variable {O O' : List (Nat × Ob)} {G G' : Gh} {w w' : World} {w0 : Base}

theorem safeC_rep (hA : ∀ id, G.A id → G'.A id ∧ G'.φ id = G.φ id) (hfix : G'.b = G.b ∧ G'.pin = G.pin) (hlow : ∀ b, G.b b → w'.heap[b]? = w.heap[b]?) (hhi : ∀ id, Lv O' G' id → ∀ b ∈ G'.h id, ¬ G'.b b)
    {x : C} {v : Value} (hs : safeC x = true) (h : x.rep O G w v) : x.rep O' G' w' v := by
  cases x with
  | nil => exact h
  | nil0 => exact h
  | anc x =>
    obtain ⟨F, h1, _, h3⟩ := h
    exact ⟨F, T.rep_keep x v F h1 (fun b hb => hlow b (h3 b hb)), fun id hl b hb hbh => by
      have h4 := hhi id hl b hbh
      have h5 := h3 b hb
      rw [hfix.1] at h4
      exact h4 h5, fun b hb => by rw [hfix.1]; exact h3 b hb⟩
  | t x =>
    obtain ⟨F, h1, _⟩ := h
    have := scal_none hs h1
    subst this
    exact ⟨[], T.rep_keep x v [] h1 (by simp), fun _ _ b hb => by simp at hb⟩
  | ref id => exact ⟨(hA id h.1).1, by rw [(hA id h.1).2]; exact h.2.1, h.2.2⟩
  | fn f ids => exact ⟨by rw [h.1, List.map_congr_left (fun id hi => (hA id (h.2 id hi)).2)], fun id hi => (hA id (h.2 id hi)).1⟩
  | view id sz lo hi =>
    obtain ⟨h1, h2, A, c, h3, h0, h4⟩ := h
    exact ⟨(hA id h1).1, h2, A, c, h3, h0, fun hl => by
      obtain ⟨ad, n, c', h5, h6⟩ := h4 hl
      exact ⟨ad, n, c', (hA id h1).2.trans h5, h6⟩⟩
theorem safeCs_rep (hA : ∀ id, G.A id → G'.A id ∧ G'.φ id = G.φ id) (hfix : G'.b = G.b ∧ G'.pin = G.pin) (hlow : ∀ b, G.b b → w'.heap[b]? = w.heap[b]?) (hhi : ∀ id, Lv O' G' id → ∀ b ∈ G'.h id, ¬ G'.b b) : ∀ {xs : List C} {vs : List Value}, xs.all safeC = true → repCs O G w xs vs → repCs O' G' w' xs vs
  | [], vs, _, h => h
  | x :: xs, _, hs, ⟨v, vs', h1, h2, h3⟩ => by
    simp only [List.all_cons, Bool.and_eq_true] at hs
    exact ⟨v, vs', h1, safeC_rep hA hfix hlow hhi hs.1 h2, safeCs_rep hA hfix hlow hhi hs.2 h3⟩
theorem safeCss_rep (hA : ∀ id, G.A id → G'.A id ∧ G'.φ id = G.φ id) (hfix : G'.b = G.b ∧ G'.pin = G.pin) (hlow : ∀ b, G.b b → w'.heap[b]? = w.heap[b]?) (hhi : ∀ id, Lv O' G' id → ∀ b ∈ G'.h id, ¬ G'.b b) : ∀ {xs : List (List C)} {vs : List (List Value)}, (xs.all fun r => r.all safeC) = true → repCss O G w xs vs → repCss O' G' w' xs vs
  | [], vs, _, h => h
  | x :: xs, _, hs, ⟨v, vs', h1, h2, h3⟩ => by
    simp only [List.all_cons, Bool.and_eq_true] at hs
    exact ⟨v, vs', h1, safeCs_rep hA hfix hlow hhi hs.1 h2, safeCss_rep hA hfix hlow hhi hs.2 h3⟩
theorem safeAV_rep (hA : ∀ id, G.A id → G'.A id ∧ G'.φ id = G.φ id) (hfix : G'.b = G.b ∧ G'.pin = G.pin) (hlow : ∀ b, G.b b → w'.heap[b]? = w.heap[b]?) (hhi : ∀ id, Lv O' G' id → ∀ b ∈ G'.h id, ¬ G'.b b)
    {x : AV} {v : Value} (hs : safeAV x = true) (h : x.rep O G w v) : x.rep O' G' w' v := by
  cases x with
  | c x => simp only [AV.rep] at h ⊢; exact safeC_rep hA hfix hlow hhi hs h
  | agg xs => simp only [AV.rep] at h ⊢; obtain ⟨vs, h1, h2⟩ := h; exact ⟨vs, h1, safeCs_rep hA hfix hlow hhi hs h2⟩
  | tup xs => simp [safeAV] at hs
  | ptr id off =>
    simp only [AV.rep] at h ⊢
    obtain ⟨h1, ad, h2, h3⟩ := h
    exact ⟨(hA id h1).1, ad, (hA id h1).2.trans h2, h3⟩
  | iptr id sz i off =>
    simp only [AV.rep] at h ⊢
    obtain ⟨h1, ad, n, c, h2, h3⟩ := h
    exact ⟨(hA id h1).1, ad, n, c, (hA id h1).2.trans h2, h3⟩
  | sptr cells off => simp [safeAV] at hs
  | frm ks vs => simp [safeAV] at hs
  | any => simp only [AV.rep]
  | junk => simp only [AV.rep] at h ⊢; exact h
  | nilq rows => simp only [AV.rep] at h ⊢; exact h
  | pin x =>
    cases x with
    | c x => simp only [AV.rep] at h ⊢; exact ⟨safeC_rep hA hfix hlow hhi hs h.1, by rw [hfix.2]; exact h.2⟩
    | agg xs => simp only [AV.rep] at h ⊢; obtain ⟨⟨vs, h1, h2⟩, h3⟩ := h; exact ⟨⟨vs, h1, safeCs_rep hA hfix hlow hhi hs h2⟩, by rw [hfix.2]; exact h3⟩
    | ptr id off =>
      simp only [AV.rep] at h ⊢
      obtain ⟨⟨h1, ad, h2, h3⟩, h4⟩ := h
      exact ⟨⟨(hA id h1).1, ad, (hA id h1).2.trans h2, h3⟩, by rw [hfix.2]; exact h4⟩
    | _ => simp [safeAV] at hs

/-- A write in place: it may change the blocks of the objects of 'S' and make new ones. -/
theorem Mem.mut (hM : Mem w0 O G w) (S : List Nat) (hS : ∀ i ∈ S, Lv O G i) (F : List Nat) (hF : ∀ b ∈ F, ∃ i, i ∈ S ∧ b ∈ G.Φ i) (hb : BelowM F w w')
    (hA : ∀ id, G.A id → G'.A id ∧ G'.φ id = G.φ id) (hA' : ∀ id, G'.A id → G.A id) (hfix : G'.b = G.b ∧ G'.pin = G.pin)
    (hK : ∀ id, id ∉ S → G'.Φ id = G.Φ id ∧ G'.h id = G.h id)
    (hO : ∀ id o, id ∉ S → get O' id = some o → get O id = some o ∧ safeOb o = true)
    (hXn : ∀ id, id ∈ S → (G'.Φ id).Nodup)
    (hXd : ∀ i j, i ∈ S → j ∈ S → i ≠ j → ∀ b ∈ G'.Φ i, b ∉ G'.Φ j)
    (hXlo : ∀ id, id ∈ S → ∀ b ∈ G'.Φ id, ((∃ i, i ∈ S ∧ b ∈ G.Φ i) ∨ w.heap.size ≤ b) ∧ ∃ arr e, w'.heap[b]? = some (.cells arr e (0, 0)))
    (hXh : ∀ id, id ∈ S → ∀ b ∈ G'.h id, b ∈ G'.Φ id)
    (hXr : ∀ id, id ∈ S → ∀ o, get O' id = some o → o.rep O' G' w' id) :
    Mem w0 O' G' w' ∧ ∀ av v, safeAV av = true → av.rep O G w v → av.rep O' G' w' v := by
  have hlt : ∀ id, Lv O G id → ∀ b ∈ G.Φ id, b < w.heap.size := fun id hl b hb => by
    obtain ⟨_, arr, e, h⟩ := hM.lo id hl b hb
    exact (Array.getElem?_eq_some_iff.1 h).1
  have old : ∀ id, id ∉ S → Lv O' G' id → Lv O G id ∧ ∃ o, get O' id = some o ∧ get O id = some o ∧ safeOb o = true := fun id hs ⟨ha, o, ho⟩ => by
    obtain ⟨h1, h2⟩ := hO id o hs ho
    exact ⟨⟨hA' id ha, o, h1⟩, o, ho, h1, h2⟩
  have keep : ∀ id, id ∉ S → Lv O G id → ∀ b ∈ G.Φ id, w'.heap[b]? = w.heap[b]? := fun id hs hl b hbb => by
    refine hb.block b (hlt id hl b hbb) (fun hbF => ?_)
    obtain ⟨i, hi, hbi⟩ := hF b hbF
    exact hM.disj id i hl (hS i hi) (fun e => hs (e ▸ hi)) b hbb hbi
  have hlo : ∀ id, Lv O' G' id → ∀ b ∈ G'.Φ id, ((w0.w.heap.size ≤ b ∨ b ∈ w0.M) ∧ ¬ w0.b b) ∧ ∃ arr e, w'.heap[b]? = some (.cells arr e (0, 0)) := by
    intro id hl b hbb
    by_cases hs : id ∈ S
    · obtain ⟨h1, h2⟩ := hXlo id hs b hbb
      refine ⟨?_, h2⟩
      rcases h1 with ⟨i, hi, hbi⟩ | h1
      · exact (hM.lo i (hS i hi) b hbi).1
      · exact ⟨.inl (Nat.le_trans hM.below.size h1), fun hb => Nat.lt_irrefl _ (Nat.lt_of_lt_of_le (hM.base b hb) (Nat.le_trans hM.below.size h1))⟩
    · obtain ⟨h1, _⟩ := old id hs hl
      rw [(hK id hs).1] at hbb
      obtain ⟨h2, arr, e, h3⟩ := hM.lo id h1 b hbb
      exact ⟨h2, arr, e, by rw [keep id hs h1 b hbb]; exact h3⟩
  have hhd : ∀ id, Lv O' G' id → ∀ b ∈ G'.h id, b ∈ G'.Φ id := by
    intro id hl b hbb
    by_cases hs : id ∈ S
    · exact hXh id hs b hbb
    · rw [(hK id hs).2] at hbb
      rw [(hK id hs).1]
      exact hM.hds id (old id hs hl).1 b hbb
  have hhi : ∀ id, Lv O' G' id → ∀ b ∈ G'.h id, ¬ G'.b b := fun id hl b hbb => by
    have := (hlo id hl b (hhd id hl b hbb)).1.2
    rw [hfix.1, hM.fix.1]
    exact this
  have hlow : ∀ b, G.b b → w'.heap[b]? = w.heap[b]? := fun b hbb => by
    have h1 : w0.b b := by rw [← hM.fix.1]; exact hbb
    have h2 := hM.base b h1
    have h3 := hM.below.size
    refine hb.block b (by omega) (fun hbF => ?_)
    obtain ⟨i, hi, hbi⟩ := hF b hbF
    exact (hM.lo i (hS i hi) b hbi).1.2 h1
  refine ⟨⟨hM.below.trans' hb.os hb.tape hb.output hb.size (fun b hbl hbm => hb.block b (Nat.lt_of_lt_of_le hbl hM.below.size) (fun hbF => ?_)), hM.base, ⟨hfix.1.trans hM.fix.1, hfix.2.trans hM.fix.2⟩,
    fun id o ha hg => ?_, fun id hl => ?_, fun i j hi hj hne => ?_, hlo, hhd⟩, fun av v hs h => safeAV_rep hA hfix hlow hhi hs h⟩
  · obtain ⟨i, hi, hbi⟩ := hF b hbF
    rcases (hM.lo i (hS i hi) b hbi).1.1 with h | h
    · omega
    · exact hbm h
  · by_cases hs : id ∈ S
    · exact hXr id hs o hg
    · obtain ⟨h1, h2⟩ := hO id o hs hg
      have hl : Lv O G id := ⟨hA' id ha, o, h1⟩
      have hob := hM.obs id o hl.1 h1
      have hk := keep id hs hl
      have hφ := (hA id hl.1).2
      obtain ⟨hΦ, hH⟩ := hK id hs
      cases o with
      | box cs =>
        obtain ⟨g, vs, e, h3, h4, h5, h6, h7⟩ := hob
        exact ⟨g, vs, e, hφ.trans h3, by rw [hk g (by simp [h6])]; exact h4, safeCs_rep hA hfix hlow hhi h2 h5, hΦ.trans h6, hH.trans h7⟩
      | row own app sz rows =>
        have h2' : own = true := h2
        subst h2'
        obtain ⟨css, F', h3, h4, h5, h6⟩ := hob
        simp only [if_true] at h6
        refine ⟨css, F', repRows_keep rows css F' h3 (fun b hbb => hk b (by simp [h6, hbb])), h4, ?_, by simp only [if_true]; rw [hΦ, hH]; exact h6⟩
        rw [hφ, hH]
        cases app with
        | true => simp only [if_true] at h5 ⊢; exact ⟨h5.1.keep (fun b hbb => hk b (hM.hds id hl b (by rw [h5.2]; exact hbb))), h5.2⟩
        | false =>
          simp only [Bool.false_eq_true, if_false] at h5 ⊢
          refine ⟨?_, h5.2⟩
          rcases h5.2 with h7 | ⟨rfl, h7⟩
          · exact h5.1.keep (fun b hbb => hk b (hM.hds id hl b (by rw [h7]; exact hbb)))
          · obtain ⟨A, c, e1, e2, _⟩ := h5.1
            exact ⟨A, c, e1, e2, fun h => absurd h (by simp)⟩
      | tmp sz rows =>
        obtain ⟨css, h3, h4, h5, h6, h7⟩ := hob
        exact ⟨css, safeCss_rep hA hfix hlow hhi h2 h3, h4, by rw [hφ]; exact h5.keep (fun b hbb => hk b (by rw [h6]; exact hbb)), by rw [hΦ, hφ]; exact h6, by rw [hH, hφ]; exact h7⟩
      | vw rows => cases (h2 : false = true)
  · by_cases hs : id ∈ S
    · exact hXn id hs
    · rw [(hK id hs).1]; exact hM.nodup id (old id hs hl).1
  · have sep : ∀ i j, i ∈ S → j ∉ S → Lv O' G' j → ∀ b ∈ G'.Φ i, b ∉ G'.Φ j := fun i j hi hj hlj b hbi hbj => by
      rw [(hK j hj).1] at hbj
      have hl := (old j hj hlj).1
      rcases (hXlo i hi b hbi).1 with ⟨i', hi', hbi'⟩ | h
      · exact hM.disj i' j (hS i' hi') hl (fun e => hj (e ▸ hi')) b hbi' hbj
      · have := hlt j hl b hbj
        omega
    by_cases hsi : i ∈ S <;> by_cases hsj : j ∈ S
    · exact hXd i j hsi hsj hne
    · exact sep i j hsi hsj hj
    · exact fun b hb1 hb2 => sep j i hsj hsi hi b hb2 hb1
    · rw [(hK i hsi).1, (hK j hsj).1]; exact hM.disj i j (old i hsi hi).1 (old j hsj hj).1 hne
end

/-! ### The contract of a function that writes in place -/
def RC.mrep (w : World) : RC → Value → List Nat → Prop
  | .s x, v, F => (isScal x = true ∧ x.rep w v []) ∧ F = []
  | .w sz rows, v, F => ∃ css F', repRows w rows css F' ∧ (∀ cs ∈ css, cs.length = sz) ∧ RowWeak w v rows.length sz css ∧ (F = hd v ++ F' ∨ (rows = [] ∧ F = []))
  | .l _ _, _, _ => False
def repMCs (w : World) : List RC → List Value → List Nat → Prop
  | [], vs, F => vs = [] ∧ F = []
  | x :: xs, vs, F => ∃ v vs' F1 F2, vs = v :: vs' ∧ F = F1 ++ F2 ∧ x.mrep w v F1 ∧ repMCs w xs vs' F2
def RV.mrep (w : World) : RV → Value → List Nat → Prop
  | .one x, v, F => x.mrep w v F
  | .agg xs, v, F => ∃ vs, v = .agg (List.toArray vs) ∧ repMCs w xs vs F

/-- The function changes what its first argument shows, in place, and returns one cell that lies in no memory. -/
def MutAt (P : Program) (f : FuncId) (m m' : RV) (as : List V) (y : T) : Prop :=
  Enter P f ∧ isScal y = true ∧ ∀ (w : World) (v : Value) (vs : List Value) (F : List Nat), m.mrep w v F → F.Nodup → (∀ b ∈ F, ∃ arr e, w.heap[b]? = some (.cells arr e (0, 0))) → repVs w as vs →
    Calls P f (v :: vs).toArray w fun e w' => ∃ u F', e = .returned u ∧ y.rep w' u [] ∧ m'.mrep w' v F' ∧ F'.Nodup ∧
      (∀ b ∈ F', (b ∈ F ∨ w.heap.size ≤ b) ∧ ∃ arr e, w'.heap[b]? = some (.cells arr e (0, 0))) ∧ BelowM F w w'

/-! ### A call on objects -/
def mC (O : List (Nat × Ob)) : C → Option (RC × List Nat)
  | .t x => bif isScal x then some (.s x, []) else none
  | .ref id => match get O id with
    | some (.row true _ sz rows) => some (.w sz rows, [id])
    | _ => none
  | _ => none
def mCs (O : List (Nat × Ob)) : List C → Option (List RC × List Nat)
  | [] => some ([], [])
  | x :: xs => match mC O x, mCs O xs with
    | some (r, i), some (rs, is) => some (r :: rs, i ++ is)
    | _, _ => none
def mAV (O : List (Nat × Ob)) : AV → Option (RV × List Nat)
  | .c x => match mC O x with | some (r, i) => some (.one r, i) | none => none
  | .agg xs => match mCs O xs with | some (rs, i) => some (.agg rs, i) | none => none
  | _ => none
def pC (O : List (Nat × Ob)) : C → RC → Option (List (Nat × Ob))
  | .t _, .s _ => some O
  | .ref id, .w sz rows => some (Vm.put O id (.row true false sz rows))
  | _, _ => none
def pCs (O : List (Nat × Ob)) : List C → List RC → Option (List (Nat × Ob))
  | [], [] => some O
  | x :: xs, r :: rs => match pC O x r with | some O1 => pCs O1 xs rs | none => none
  | _, _ => none
def pAV (O : List (Nat × Ob)) : AV → RV → Option (List (Nat × Ob))
  | .c x, .one r => pC O x r
  | .agg xs, .agg rs => pCs O xs rs
  | _, _ => none

def opM (P : Program) (vl : Operand → Option AV) (f : Operand) (args : Array Operand) (σ : St) (K : AV → St → Prop) : Prop :=
  need (vl f) fun
  | .c (.fn fid []) => match args.toList with
    | x :: rest => need (vl x) fun av => need (vals vl rest) fun avs => need (mapO (argV σ.objs) avs) fun as => need (mAV σ.objs av) fun m => nodupB m.2 = true ∧
        ∃ m' y, MutAt P fid m.1 m' as y ∧ need (pAV σ.objs av m') fun O' => K (.c (.t y)) ⟨filtD safeAV [] σ.env, filtD safeOb [] O', σ.next⟩
    | [] => False
  | _ => False

def Gh.upd (G : Gh) (l : List (Nat × (List Nat × List Nat))) : Gh where
  A := G.A
  φ := G.φ
  Φ := fun j => match get l j with | some p => p.1 | none => G.Φ j
  h := fun j => match get l j with | some p => p.2 | none => G.h j
  b := G.b
  pin := G.pin

section
variable {O O' : List (Nat × Ob)} {G G' : Gh} {w w' : World} {w0 : Base}

theorem mC_rep (hM : Mem w0 O G w) {x : C} {r : RC} {ids : List Nat} {v : Value} (h : mC O x = some (r, ids)) (hr : x.rep O G w v) : r.mrep w v (ids.map G.Φ).flatten ∧ ∀ i ∈ ids, Lv O G i := by
  cases x with
  | t x =>
    simp only [mC] at h
    cases hs : isScal x with
    | false => simp [hs] at h
    | true =>
      simp only [hs, cond_true, Option.some.injEq, Prod.mk.injEq] at h
      obtain ⟨rfl, rfl⟩ := h
      obtain ⟨F, h1, _⟩ := hr
      have := scal_none hs h1
      subst this
      exact ⟨⟨⟨hs, h1⟩, rfl⟩, by simp⟩
  | ref id =>
    simp only [mC] at h
    split at h
    · rename_i app sz rows hg
      simp only [Option.some.injEq, Prod.mk.injEq] at h
      obtain ⟨rfl, rfl⟩ := h
      obtain ⟨h1, h2, _⟩ := hr
      subst h2
      obtain ⟨css, F', h3, h4, h5, h6⟩ := hM.obs id _ h1 hg
      simp only [if_true] at h6
      refine ⟨?_, fun i hi => by rw [List.mem_singleton.1 hi]; exact ⟨h1, _, hg⟩⟩
      simp only [List.map_cons, List.map_nil, List.flatten_cons, List.flatten_nil, List.append_nil]
      cases app with
      | true =>
        simp only [if_true] at h5
        exact ⟨css, F', h3, h4, h5.1.weak h4, .inl (by rw [h6, h5.2])⟩
      | false =>
        simp only [Bool.false_eq_true, if_false] at h5
        refine ⟨css, F', h3, h4, h5.1, ?_⟩
        rcases h5.2 with h7 | ⟨h7, h8⟩
        · exact .inl (by rw [h6, h7])
        · subst h7
          simp only [repRows] at h3
          exact .inr ⟨rfl, by rw [h6, h8, h3.2]; rfl⟩
    · cases h
  | nil => simp [mC] at h
  | nil0 => simp [mC] at h
  | anc x => simp [mC] at h
  | fn f ids => simp [mC] at h
  | view id sz lo hi => simp [mC] at h
theorem mCs_rep (hM : Mem w0 O G w) : ∀ {xs : List C} {rs : List RC} {ids : List Nat} {vs : List Value}, mCs O xs = some (rs, ids) → repCs O G w xs vs → repMCs w rs vs (ids.map G.Φ).flatten ∧ ∀ i ∈ ids, Lv O G i
  | [], rs, ids, vs, h, hr => by
    simp only [mCs, Option.some.injEq, Prod.mk.injEq] at h
    obtain ⟨rfl, rfl⟩ := h
    exact ⟨⟨hr, rfl⟩, by simp⟩
  | x :: xs, rs, ids, vs, h, ⟨v, vs', h1, h2, h3⟩ => by
    simp only [mCs] at h
    split at h
    · rename_i r i rs' is e1 e2
      simp only [Option.some.injEq, Prod.mk.injEq] at h
      obtain ⟨rfl, rfl⟩ := h
      obtain ⟨a1, a2⟩ := mC_rep hM e1 h2
      obtain ⟨b1, b2⟩ := mCs_rep hM e2 h3
      refine ⟨⟨v, vs', _, _, h1, by rw [List.map_append, List.flatten_append], a1, b1⟩, fun j hj => ?_⟩
      rcases List.mem_append.1 hj with hj | hj
      · exact a2 j hj
      · exact b2 j hj
    · cases h

theorem flatΦ_nodup (hM : Mem w0 O G w) : ∀ {ids : List Nat}, ids.Nodup → (∀ i ∈ ids, Lv O G i) → ((ids.map G.Φ).flatten).Nodup
  | [], _, _ => by simp
  | i :: is, hn, hl => by
    obtain ⟨h1, h2⟩ := List.nodup_cons.1 hn
    simp only [List.map_cons, List.flatten_cons]
    refine List.nodup_append.2 ⟨hM.nodup i (hl i (by simp)), flatΦ_nodup hM h2 (fun j hj => hl j (by simp [hj])), fun b hb b' hb' e => ?_⟩
    subst e
    obtain ⟨F, hF, hbF⟩ := List.mem_flatten.1 hb'
    obtain ⟨j, hj, rfl⟩ := List.mem_map.1 hF
    exact hM.disj i j (hl i (by simp)) (hl j (by simp [hj])) (fun e => h1 (e ▸ hj)) b hb hbF
theorem mem_flatΦ {ids : List Nat} {b : Nat} (h : b ∈ (ids.map G.Φ).flatten) : ∃ i, i ∈ ids ∧ b ∈ G.Φ i := by
  obtain ⟨F, hF, hbF⟩ := List.mem_flatten.1 h
  obtain ⟨j, hj, rfl⟩ := List.mem_map.1 hF
  exact ⟨j, hj, hbF⟩

/-- What the objects of a call in place are afterwards. -/
structure Back (G : Gh) (w' : World) (O O' : List (Nat × Ob)) (ids : List Nat) (F : List Nat) (l : List (Nat × (List Nat × List Nat))) : Prop where
  keys : l.map (·.1) = ids
  flat : (l.map (·.2.1)).flatten = F
  hds : ∀ p ∈ l, ∀ b ∈ p.2.2, b ∈ p.2.1
  other : ∀ id, id ∉ ids → get O' id = get O id
  rep : ∀ p ∈ l, ∃ o, get O' p.1 = some o ∧ ∀ (O2 : List (Nat × Ob)) (G2 : Gh), G2.φ p.1 = G.φ p.1 → G2.Φ p.1 = p.2.1 → G2.h p.1 = p.2.2 → o.rep O2 G2 w' p.1

theorem pC_back {O0 : List (Nat × Ob)} {x : C} {r r' : RC} {ids : List Nat} {v : Value} {F' : List Nat} (h : mC O0 x = some (r, ids)) (hr : x.rep O0 G w v) (hp : pC O x r' = some O') (hm : r'.mrep w' v F') :
    ∃ l, Back G w' O O' ids F' l := by
  cases x with
  | t x =>
    simp only [mC] at h
    cases hs : isScal x with
    | false => simp [hs] at h
    | true =>
      simp only [hs, cond_true, Option.some.injEq, Prod.mk.injEq] at h
      obtain ⟨_, rfl⟩ := h
      cases r' with
      | s y =>
        simp only [pC, Option.some.injEq] at hp
        subst hp
        exact ⟨[], rfl, by rw [hm.2]; rfl, by simp, fun _ _ => rfl, by simp⟩
      | _ => simp [pC] at hp
  | ref id =>
    simp only [mC] at h
    split at h
    · simp only [Option.some.injEq, Prod.mk.injEq] at h
      obtain ⟨_, rfl⟩ := h
      obtain ⟨_, h2, _⟩ := hr
      cases r' with
      | w sz rows =>
        simp only [pC, Option.some.injEq] at hp
        subst hp
        obtain ⟨css, F2, h3, h4, h5, h6⟩ := hm
        rcases h6 with h6 | ⟨h6, h7⟩
        · refine ⟨[(id, (F', hd v))], rfl, by simp, by simp +contextual [h6], fun j hj => get_put_other _ _ _ _ (by simpa using hj), fun p hp => ?_⟩
          obtain rfl := List.mem_singleton.1 hp
          refine ⟨_, get_put_same _ _ _, fun O2 G2 e1 e2 e3 => ⟨css, F2, h3, h4, ?_, ?_⟩⟩
          · simp only [Bool.false_eq_true, if_false]
            simp only at e1 e3
            rw [e1, e3, ← h2]
            exact ⟨h5, .inl rfl⟩
          · simp only [if_true]
            simp only at e2 e3
            rw [e2, e3, h6]
        · subst h6 h7
          refine ⟨[(id, ([], []))], rfl, by simp, by simp, fun j hj => get_put_other _ _ _ _ (by simpa using hj), fun p hp => ?_⟩
          obtain rfl := List.mem_singleton.1 hp
          refine ⟨_, get_put_same _ _ _, fun O2 G2 e1 e2 e3 => ⟨css, [], ?_, h4, ?_, ?_⟩⟩
          · simp only [repRows] at h3 ⊢
            exact ⟨h3.1, trivial⟩
          · simp only [Bool.false_eq_true, if_false]
            simp only at e1 e3
            rw [e1, e3, ← h2]
            exact ⟨h5, .inr ⟨trivial, rfl⟩⟩
          · simp only [if_true]
            simp only at e2 e3
            rw [e2, e3]
            rfl
      | _ => simp [pC] at hp
    · cases h
  | nil => simp [mC] at h
  | nil0 => simp [mC] at h
  | anc x => simp [mC] at h
  | fn f ids => simp [mC] at h
  | view id sz lo hi => simp [mC] at h
theorem pCs_back {O0 : List (Nat × Ob)} : ∀ {xs : List C} {rs rs' : List RC} {ids : List Nat} {vs : List Value} {O O' : List (Nat × Ob)} {F' : List Nat}, mCs O0 xs = some (rs, ids) → ids.Nodup → repCs O0 G w xs vs → pCs O xs rs' = some O' → repMCs w' rs' vs F' →
    ∃ l, Back G w' O O' ids F' l
  | [], rs, rs', ids, vs, O, O', F', h, hn, hr, hp, hm => by
    simp only [mCs, Option.some.injEq, Prod.mk.injEq] at h
    obtain ⟨_, rfl⟩ := h
    cases rs' with
    | nil =>
      simp only [pCs, Option.some.injEq] at hp
      subst hp
      exact ⟨[], rfl, by rw [hm.2]; rfl, by simp, fun _ _ => rfl, by simp⟩
    | cons r rs => simp [pCs] at hp
  | x :: xs, rs, rs', ids, vs, O, O', F', h, hn, ⟨v, vs', h1, h2, h3⟩, hp, hm => by
    subst h1
    simp only [mCs] at h
    split at h
    · rename_i r i rs1 is e1 e2
      simp only [Option.some.injEq, Prod.mk.injEq] at h
      obtain ⟨_, rfl⟩ := h
      obtain ⟨hn1, hn2, hn3⟩ := List.nodup_append.1 hn
      cases rs' with
      | nil => simp [pCs] at hp
      | cons r' rs' =>
        simp only [pCs] at hp
        split at hp
        · rename_i O1 ep
          obtain ⟨u, us, F1, F2, e3, e4, m1, m2⟩ := hm
          injection e3 with e5 e6
          subst e4 e5 e6
          obtain ⟨l1, b1⟩ := pC_back e1 h2 ep m1
          obtain ⟨l2, b2⟩ := pCs_back e2 hn2 h3 hp m2
          refine ⟨l1 ++ l2, by rw [List.map_append, b1.keys, b2.keys], by rw [List.map_append, List.flatten_append, b1.flat, b2.flat], fun p hp => ?_, fun id hid => ?_, fun p hp => ?_⟩
          · rcases List.mem_append.1 hp with hp | hp
            · exact b1.hds p hp
            · exact b2.hds p hp
          · simp only [List.mem_append, not_or] at hid
            rw [b2.other id hid.2, b1.other id hid.1]
          · rcases List.mem_append.1 hp with hp | hp
            · obtain ⟨o, ho, hr⟩ := b1.rep p hp
              have hmem : p.1 ∈ i := by rw [← b1.keys]; exact List.mem_map.2 ⟨p, hp, rfl⟩
              exact ⟨o, by rw [b2.other p.1 (fun h => hn3 _ hmem _ h rfl)]; exact ho, hr⟩
            · exact b2.rep p hp
        · cases hp
    · cases h

theorem get_mem {α : Type} : ∀ {l : List (Nat × α)} {k : Nat} {v : α}, get l k = some v → (k, v) ∈ l
  | [], k, v, h => by cases h
  | (q, u) :: r, k, v, h => by
    by_cases e : k = q
    · subst e
      rw [get_cons_same] at h
      injection h with h
      subst h
      simp
    · rw [get_cons_other _ _ _ _ e] at h
      simp [get_mem h]
theorem get_none {α : Type} : ∀ {l : List (Nat × α)} {k : Nat}, k ∉ l.map (·.1) → get l k = none
  | [], _, _ => rfl
  | (q, u) :: r, k, h => by
    simp only [List.map_cons, List.mem_cons, not_or] at h
    rw [get_cons_other _ _ _ _ h.1]
    exact get_none h.2
theorem get_some {α : Type} : ∀ {l : List (Nat × α)} {k : Nat}, k ∈ l.map (·.1) → ∃ v, get l k = some v
  | [], _, h => by simp at h
  | (q, u) :: r, k, h => by
    by_cases e : k = q
    · subst e; exact ⟨u, get_cons_same _ _ _⟩
    · simp only [List.map_cons, List.mem_cons] at h
      obtain ⟨v, hv⟩ := get_some (l := r) (h.resolve_left e)
      exact ⟨v, by rw [get_cons_other _ _ _ _ e]; exact hv⟩

theorem flat_disj {l : List (Nat × (List Nat × List Nat))} (h : ((l.map (·.2.1)).flatten).Nodup) (hk : (l.map (·.1)).Nodup) : (∀ p ∈ l, p.2.1.Nodup) ∧ ∀ p ∈ l, ∀ q ∈ l, p.1 ≠ q.1 → ∀ b ∈ p.2.1, b ∉ q.2.1 := by
  induction l with
  | nil => simp
  | cons x xs ih =>
    simp only [List.map_cons, List.flatten_cons] at h hk
    obtain ⟨h1, h2, h3⟩ := List.nodup_append.1 h
    obtain ⟨k1, k2⟩ := List.nodup_cons.1 hk
    obtain ⟨i1, i2⟩ := ih h2 k2
    have mem : ∀ q ∈ xs, ∀ b ∈ q.2.1, b ∈ (xs.map (·.2.1)).flatten := fun q hq b hb => List.mem_flatten.2 ⟨_, List.mem_map.2 ⟨q, hq, rfl⟩, hb⟩
    refine ⟨fun p hp => ?_, fun p hp q hq hne b hb hb' => ?_⟩
    · rcases List.mem_cons.1 hp with rfl | hp
      · exact h1
      · exact i1 p hp
    · rcases List.mem_cons.1 hp with e1 | hp1 <;> rcases List.mem_cons.1 hq with e2 | hq1
      · exact hne (by rw [e1, e2])
      · subst e1; exact h3 b hb b (mem q hq1 b hb') rfl
      · subst e2; exact h3 b hb' b (mem p hp1 b hb) rfl
      · exact i2 p hp1 q hq1 hne b hb hb'

/-- Behind a call in place: the state's objects in the new world. -/
theorem Back.mem (hM : Mem w0 O G w) {ids : List Nat} {F' : List Nat} {l : List (Nat × (List Nat × List Nat))} (hB : Back G w' O O' ids F' l) (hn : ids.Nodup) (hl : ∀ i ∈ ids, Lv O G i) (hF' : F'.Nodup)
    (hFc : ∀ b ∈ F', (b ∈ (ids.map G.Φ).flatten ∨ w.heap.size ≤ b) ∧ ∃ arr e, w'.heap[b]? = some (.cells arr e (0, 0))) (hb : BelowM ((ids.map G.Φ).flatten) w w') :
    Mem w0 (filtD safeOb [] O') (G.upd l) w' ∧ ∀ av v, safeAV av = true → av.rep O G w v → av.rep (filtD safeOb [] O') (G.upd l) w' v := by
  have hk := hB.keys
  have hkn : (l.map (·.1)).Nodup := by rw [hk]; exact hn
  obtain ⟨d1, d2⟩ := flat_disj (by rw [hB.flat]; exact hF') hkn
  have at_ : ∀ id ∈ ids, ∃ p, p ∈ l ∧ p.1 = id ∧ (G.upd l).Φ id = p.2.1 ∧ (G.upd l).h id = p.2.2 := fun id hi => by
    obtain ⟨v, hv⟩ := get_some (l := l) (k := id) (by rw [hk]; exact hi)
    exact ⟨(id, v), get_mem hv, rfl, by simp only [Gh.upd, hv], by simp only [Gh.upd, hv]⟩
  have memF : ∀ p ∈ l, ∀ b ∈ p.2.1, b ∈ F' := fun p hp b hbb => by rw [← hB.flat]; exact List.mem_flatten.2 ⟨_, List.mem_map.2 ⟨p, hp, rfl⟩, hbb⟩
  refine Mem.mut hM ids hl ((ids.map G.Φ).flatten) (fun b hbb => mem_flatΦ hbb) hb (fun id h => ⟨h, rfl⟩) (fun id h => h) ⟨rfl, rfl⟩ (fun id hi => ?_) (fun id o hi ho => ?_) (fun id hi => ?_) (fun i j hi hj hne b hbi hbj => ?_) (fun id hi b hbb => ?_) (fun id hi b hbb => ?_) (fun id hi o ho => ?_)
  · have := get_none (l := l) (k := id) (by rw [hk]; exact hi)
    exact ⟨by simp only [Gh.upd, this], by simp only [Gh.upd, this]⟩
  · obtain ⟨_, h1, h2⟩ := get_filtD ho
    rw [hB.other id hi] at h1
    exact ⟨h1, h2⟩
  · obtain ⟨p, hp, _, h2, _⟩ := at_ id hi
    rw [h2]; exact d1 p hp
  · obtain ⟨p, hp, h1, h2, _⟩ := at_ i hi
    obtain ⟨q, hq, h3, h4, _⟩ := at_ j hj
    rw [h2] at hbi
    rw [h4] at hbj
    exact d2 p hp q hq (by rw [h1, h3]; exact hne) b hbi hbj
  · obtain ⟨p, hp, _, h2, _⟩ := at_ id hi
    rw [h2] at hbb
    obtain ⟨h3, h4⟩ := hFc b (memF p hp b hbb)
    exact ⟨h3.imp (fun h => mem_flatΦ h) (fun h => h), h4⟩
  · obtain ⟨p, hp, _, h2, h3⟩ := at_ id hi
    rw [h3] at hbb
    rw [h2]
    exact hB.hds p hp b hbb
  · obtain ⟨p, hp, h1, h2, h3⟩ := at_ id hi
    obtain ⟨o', ho', hr⟩ := hB.rep p hp
    rw [h1] at ho' hr
    obtain ⟨_, h4, _⟩ := get_filtD ho
    rw [ho'] at h4
    injection h4 with h4
    subst h4
    exact hr _ _ rfl h2 h3
end

section
variable {P : Program} {vl : Operand → Option AV} {σ : St}
variable {dst : Option Tmp} {type : TypeId} {pos : String} {after : Array Edge} {guard : Option (Nat × Bool)} {K : AV → St → Prop}

theorem mAV_rep {O : List (Nat × Ob)} {G : Gh} {w : World} {w0 : Base} (hM : Mem w0 O G w) {x : AV} {r : RV} {ids : List Nat} {v : Value} (h : mAV O x = some (r, ids)) (hr : x.rep O G w v) : r.mrep w v (ids.map G.Φ).flatten ∧ ∀ i ∈ ids, Lv O G i := by
  cases x with
  | c x =>
    simp only [mAV] at h
    split at h
    · rename_i r' i e
      simp only [Option.some.injEq, Prod.mk.injEq] at h
      obtain ⟨rfl, rfl⟩ := h
      simp only [AV.rep] at hr
      exact mC_rep hM e hr
    · cases h
  | agg xs =>
    simp only [mAV] at h
    split at h
    · rename_i r' i e
      simp only [Option.some.injEq, Prod.mk.injEq] at h
      obtain ⟨rfl, rfl⟩ := h
      simp only [AV.rep] at hr
      obtain ⟨vs, h1, h2⟩ := hr
      obtain ⟨h3, h4⟩ := mCs_rep hM e h2
      exact ⟨⟨vs, h1, h3⟩, h4⟩
    · cases h
  | _ => simp [mAV] at h
theorem pAV_back {O O' : List (Nat × Ob)} {G : Gh} {w w' : World} {x : AV} {r r' : RV} {ids : List Nat} {v : Value} {F' : List Nat} (h : mAV O x = some (r, ids)) (hn : ids.Nodup) (hr : x.rep O G w v) (hp : pAV O x r' = some O') (hm : r'.mrep w' v F') :
    ∃ l, Back G w' O O' ids F' l := by
  cases x with
  | c x =>
    simp only [mAV] at h
    split at h
    · rename_i r1 i e
      simp only [Option.some.injEq, Prod.mk.injEq] at h
      obtain ⟨_, rfl⟩ := h
      simp only [AV.rep] at hr
      cases r' with
      | one r' => exact pC_back e hr hp hm
      | agg rs => simp [pAV] at hp
    · cases h
  | agg xs =>
    simp only [mAV] at h
    split at h
    · rename_i r1 i e
      simp only [Option.some.injEq, Prod.mk.injEq] at h
      obtain ⟨_, rfl⟩ := h
      simp only [AV.rep] at hr
      obtain ⟨vs, h1, h2⟩ := hr
      cases r' with
      | one r' => simp [pAV] at hp
      | agg rs =>
        obtain ⟨us, h3, h4⟩ := hm
        rw [h1] at h3
        injection h3 with h3
        have h5 : vs = us := by simpa using congrArg Array.toList h3
        subst h5
        exact pCs_back e hn h2 hp h4
    · cases h
  | _ => simp [mAV] at h

theorem opM_sound (hw : σ.wf) {f : Operand} {args : Array Operand} {argTypes : Array TypeId} (h : opM P vl f args σ K) :
    ∃ av σ', K av σ' ∧ σ'.next = σ.next ∧ σ'.wf ∧ (∀ k x, get σ'.env k = some x → get σ.env k = some x ∧ safeAV x = true) ∧
      ∀ (w0 : Base) G w a (Kc : Act → World → Prop) (Q : Exit → Act → World → Prop), Mem w0 σ.objs G w → OpsRep vl (Op.call { callee := .value f, args, argTypes }) σ.objs G w a →
        (∀ G' v w', Mem w0 σ'.objs G' w' → (∀ x u, safeAV x = true → x.rep σ.objs G w u → x.rep σ'.objs G' w' u) → av.rep σ'.objs G' w' v → (∀ j, G'.A j → G.A j) → Kc (a.put dst v) w') →
        Oper.wp P ⟨dst, .call { callee := .value f, args, argTypes }, type, pos, after, guard⟩ a w Kc Q := by
  unfold opM at h
  have h' := need_some h; clear h
  obtain ⟨vf, ef, h⟩ := h'
  split at h
  case h_2 => exact h.elim
  rename_i fid
  obtain ⟨args⟩ := args
  simp only at h
  split at h
  case h_2 => exact h.elim
  rename_i x rest
  have h' := need_some h; clear h
  obtain ⟨av, eav, h⟩ := h'
  have h' := need_some h; clear h
  obtain ⟨avs, eavs, h⟩ := h'
  have h' := need_some h; clear h
  obtain ⟨as, eas, h⟩ := h'
  have h' := need_some h; clear h
  obtain ⟨⟨m, ids⟩, em, h⟩ := h'
  obtain ⟨hnd, m', y, hmut, h⟩ := h
  have h' := need_some h; clear h
  obtain ⟨O', eO, h⟩ := h'
  obtain ⟨hent, hy, hrun⟩ := hmut
  have hids := nodupB_iff hnd
  have hO' : ∀ id o, get O' id = some o → id < σ.next := by
    have hput : ∀ {O : List (Nat × Ob)} {x : C} {r : RC} {O1 : List (Nat × Ob)}, (∀ id o, get O id = some o → id < σ.next) → (∀ id, x = .ref id → ∃ o, get σ.objs id = some o) → pC O x r = some O1 → ∀ id o, get O1 id = some o → id < σ.next := by
      intro O x r O1 hO hx hp id o ho
      cases x <;> cases r <;> simp only [pC, Option.some.injEq] at hp <;> try cases hp
      · exact hO id o ho
      · rename_i j sz rows
        by_cases e : id = j
        · subst e
          obtain ⟨o', ho'⟩ := hx id rfl
          exact hw id o' ho'
        · rw [get_put_other _ _ _ _ e] at ho
          exact hO id o ho
    have href : ∀ {x : C} {q : RC × List Nat}, mC σ.objs x = some q → ∀ id, x = .ref id → ∃ o, get σ.objs id = some o := by
      intro x q hq id e
      subst e
      simp only [mC] at hq
      split at hq
      · rename_i hg; exact ⟨_, hg⟩
      · cases hq
    have hputs : ∀ {xs : List C} {rs : List RC} {q : List RC × List Nat} {O O1 : List (Nat × Ob)}, mCs σ.objs xs = some q → (∀ id o, get O id = some o → id < σ.next) → pCs O xs rs = some O1 → ∀ id o, get O1 id = some o → id < σ.next := by
      intro xs
      induction xs with
      | nil =>
        intro rs q O O1 _ hO hp
        cases rs with
        | nil => simp only [pCs, Option.some.injEq] at hp; subst hp; exact hO
        | cons r rs => simp [pCs] at hp
      | cons x xs ih =>
        intro rs q O O1 hq hO hp
        simp only [mCs] at hq
        split at hq
        · rename_i r1 i1 rs1 is1 e1 e2
          cases rs with
          | nil => simp [pCs] at hp
          | cons r rs =>
            simp only [pCs] at hp
            split at hp
            · rename_i O2 ep
              exact ih e2 (hput hO (href e1) ep) hp
            · cases hp
        · cases hq
    cases av with
    | c x =>
      simp only [mAV] at em
      split at em
      · rename_i r1 i1 e1
        cases m' with
        | one r' => exact hput hw (href e1) eO
        | agg rs => simp [pAV] at eO
      · cases em
    | agg xs =>
      simp only [mAV] at em
      split at em
      · rename_i r1 i1 e1
        cases m' with
        | one r' => simp [pAV] at eO
        | agg rs => exact hputs e1 hw eO
      · cases em
    | _ => simp [mAV] at em
  refine ⟨_, _, h, rfl, fun id o ho => hO' id o (get_filtD ho).2.1, fun k u hk => (get_filtD hk).2, ?_⟩
  intro w0 G w a Kc Q hM hops hK
  obtain ⟨h1, _⟩ := hops f (by simp [Op.operands, Call.operands]) _ ef
  have hx := hops x (by simp [Op.operands, Call.operands]) _ eav
  obtain ⟨hm, hl⟩ := mAV_rep hM em hx
  have hargs := argVs_sound hM eas (vals_rep (O := σ.objs) (G := G) (w := w) (a := a) eavs (fun z hz => hops z (by simp only [Op.operands, Call.operands]; simp [hz])))
  have hnF := flatΦ_nodup hM hids hl
  have hc := run_call (P := P) (dst := dst) (type := type) (pos := pos) (after := after) (guard := guard) hent (fo := f) (args := ⟨x :: rest⟩) (argTypes := argTypes) (a := a) (caps := []) (by simpa using h1) w
  unfold Oper.wp
  rw [hc]
  show Calls P fid _ w _
  rw [List.append_nil]
  refine Calls.mono (hrun w (a.eval x) (rest.map a.eval) _ hm hnF (fun b hb => ?_) hargs) ?_
  · obtain ⟨i, hi, hbi⟩ := mem_flatΦ hb
    exact (hM.lo i (hl i hi) b hbi).2
  · rintro e w' ⟨u, F', rfl, hu, hm', hF', hFc, hbel⟩
    obtain ⟨l, hB⟩ := pAV_back em hids hx eO hm'
    obtain ⟨hM', hsafe⟩ := hB.mem hM hids hl hF' hFc hbel
    exact hK _ u w' hM' hsafe (by simp only [AV.rep]; exact ⟨[], hu, fun _ _ b hb => by simp at hb⟩) (fun j hj => hj)
end

/-! ### A nested part, written in place: load it, call -/
def toT : RC → T
  | .s y => y
  | .l _ rows => .lst rows
  | .w _ rows => .lst rows
def wid : RC → Prop
  | .s y => isScal y = true
  | .w sz rows => ∀ r ∈ rows, r.length = sz
  | .l _ _ => False
def wids : List RC → Prop
  | [] => True
  | r :: rs => wid r ∧ wids rs
def mT : RV → List T
  | .one r => [toT r]
  | .agg rs => rs.map toT
def mW : RV → Prop
  | .one r => wid r
  | .agg rs => wids rs
def mAgg : RV → Bool
  | .one _ => false
  | .agg _ => true

structure Fuse where
  t : Nat
  x : Operand
  d1 : Nat
  y : Operand
  d2 : Nat
  f : FuncId
  d3 : Option Nat
def notTmp (k : Nat) : Operand → Bool
  | .tmp j => !Nat.beq j k
  | _ => true
def fuseOk (nt d1 d2 a1 a2 : Nat) (y : Operand) (d3 : Option Nat) : Bool :=
  (Nat.beq a1 d1 && Nat.beq a2 d2) && (!Nat.beq d2 d1 && notTmp d1 y) && (Nat.blt d1 nt && Nat.blt d2 nt && (match d3 with | some d => Nat.blt d nt | none => true))
def fuse (nt : Nat) : Oper → List Oper → Option Fuse
  | ⟨some d1, .load t x, _, _, _, none⟩, ⟨some d2, .move y, _, _, _, none⟩ :: ⟨d3, .call { callee := .value (.func f), args := ⟨[.tmp a1, .tmp a2]⟩, argTypes := _ }, _, _, _, none⟩ :: _ =>
    match fuseOk nt d1 d2 a1 a2 y d3 with | true => some ⟨t, x, d1, y, d2, f, d3⟩ | false => none
  | _, _ => none

def evF (P : Program) (E : Nat → Option TI) (q : Fuse) (K : St → Prop) (σ : St) : Prop :=
  need (E q.t) fun ti => need (val σ.env q.x) fun
  | .iptr id sz i off => need (get σ.objs id) fun
    | .row true app sz' rows => sz = sz' ∧ ∃ cs, rows[i]? = some cs ∧ need (val σ.env q.y) fun ay => need (argV σ.objs ay) fun va =>
        ∃ m m' y, ((mT m = (cs.drop off).take ti.size ∧ (mT m).length = ti.size) ∧ (mAgg m = ti.agg ∧ mAgg m' = ti.agg) ∧ mW m) ∧ MutAt P q.f m m' [va] y ∧
          K (St.put ⟨filtD safeAV [q.d1, q.d2] σ.env, filtD safeOb [] (Vm.put σ.objs id (.row true app sz (rows.set i (cs.take off ++ mT m' ++ cs.drop (off + ti.size))))), σ.next⟩ q.d3 (.c (.t y)))
    | _ => False
  | _ => False

section
variable {w : World}
theorem cell_mrep {r : RC} {v : Value} {F : List Nat} (h : (toT r).rep w v F) (hw : wid r) (hF : ∀ b ∈ F, ∃ arr e, w.heap[b]? = some (.cells arr e (0, 0))) : r.mrep w v F := by
  cases r with
  | s y =>
    have := scal_none hw h
    subst this
    exact ⟨⟨hw, h⟩, rfl⟩
  | l sz rows => exact hw.elim
  | w sz rows =>
    simp only [toT, T.rep] at h
    obtain ⟨A, c, h1, h2, h3⟩ := h
    rcases h3 with ⟨rfl, rfl⟩ | ⟨ad, css, F', sz', hne, rfl, hlt, rfl, hr, hg⟩
    · exact ⟨[], [], by simp [repRows], by simp, ⟨A, c, h1, h2, fun h => absurd h (by simp)⟩, .inr ⟨rfl, rfl⟩⟩
    · have hl := repRows_row_len hr hw
      have hpos := List.length_pos_iff.2 hne
      refine ⟨css, F', hr, hl, ⟨_, c, h1, h2, fun _ => ⟨ad, rfl, hF _ (by simp), fun i cs hi j u hu => ?_⟩⟩, .inl ?_⟩
      · have := hg i cs hi
        have e : sz' = sz := by rw [← this.1]; exact hl cs (List.mem_of_getElem? hi)
        rw [← e]
        exact this.2 j u hu
      · rw [h1]
        cases c with
        | zero => omega
        | succ c => rfl
theorem cells_mrep : ∀ {rs : List RC} {vs : List Value} {F : List Nat}, repCells w (rs.map toT) vs F → wids rs → (∀ b ∈ F, ∃ arr e, w.heap[b]? = some (.cells arr e (0, 0))) → repMCs w rs vs F
  | [], vs, F, h, _, _ => by simp only [List.map_nil, repCells] at h; exact h
  | r :: rs, vs, F, h, hw, hF => by
    simp only [List.map_cons, repCells] at h
    obtain ⟨v, cs', F1, F2, h1, rfl, h3, h4⟩ := h
    exact ⟨v, cs', F1, F2, h1, rfl, cell_mrep h3 hw.1 (fun b hb => hF b (by simp [hb])), cells_mrep h4 hw.2 (fun b hb => hF b (by simp [hb]))⟩
theorem mrep_cell {r : RC} {v : Value} {F : List Nat} (h : r.mrep w v F) : ∃ F', (toT r).rep w v F' ∧ F'.Sublist F := by
  cases r with
  | s y => obtain ⟨⟨_, h1⟩, rfl⟩ := h; exact ⟨[], h1, List.Sublist.refl _⟩
  | l sz rows => exact h.elim
  | w sz rows =>
    obtain ⟨css, F', h1, h2, h3, h4⟩ := h
    obtain ⟨F0, h5, h6⟩ := h3.rep h1 h2
    refine ⟨F0, h5, ?_⟩
    rcases h4 with h4 | ⟨rfl, h4⟩
    · rcases h6 with h6 | h6
      · rw [h4, h6]; exact List.Sublist.refl _
      · rw [h6]; exact List.nil_sublist _
    · simp only [T.rep] at h5
      obtain ⟨_, _, _, _, ⟨_, h9⟩ | ⟨_, _, _, _, h9, _⟩⟩ := h5
      · rw [h9]; exact List.nil_sublist _
      · exact absurd rfl h9
theorem mrep_cells : ∀ {rs : List RC} {vs : List Value} {F : List Nat}, repMCs w rs vs F → ∃ F', repCells w (rs.map toT) vs F' ∧ F'.Sublist F
  | [], vs, F, h => ⟨[], by simp only [List.map_nil, repCells]; exact ⟨h.1, trivial⟩, List.nil_sublist _⟩
  | r :: rs, vs, F, ⟨v, vs', F1, F2, h1, h2, h3, h4⟩ => by
    subst h1 h2
    obtain ⟨F1', a1, a2⟩ := mrep_cell h3
    obtain ⟨F2', b1, b2⟩ := mrep_cells h4
    exact ⟨F1' ++ F2', by simp only [List.map_cons, repCells]; exact ⟨v, vs', F1', F2', rfl, rfl, a1, b1⟩, a2.append b2⟩

theorem cut3 {α : Type} (xs : List α) (off len : Nat) : xs = xs.take off ++ (xs.drop off).take len ++ xs.drop (off + len) := by
  rw [List.append_assoc, ← List.drop_drop, List.take_append_drop, List.take_append_drop]
end
end Go.Vm

namespace Go.Vm
open Go.RowKit

/-- Arguments whose memory has not the block 'g'. -/
def repVsG (w : World) (g : Nat) : List V → List Value → Prop
  | [], vs => vs = []
  | x :: xs, vs => ∃ v vs' F, vs = v :: vs' ∧ (x.rep w v F ∧ g ∉ F) ∧ repVsG w g xs vs'

/-- THE CONTRACT: called with a pointer to a box that reads as 'cs' and with 'as', the function leaves the box reading as 'cs'' and returns 'rs' in new memory; no other block has turned. -/
def CurAt (P : Program) (f : FuncId) (cs cs' : List T) (as : List V) (rs : List RV) : Prop :=
  Enter P f ∧ ∀ (w : World) (g : Nat) (us : List Value) (e : TypeId) (F : List Nat) (vs : List Value), w.heap[g]? = some (.cells us.toArray e (0, 0)) → repCells w cs us F → g ∉ F → repVsG w g as vs →
    Calls P f (.pointer (some ⟨g, 0, none⟩) :: vs).toArray w fun ex w' => ∃ out F' us' Fc v, ex = .returned v ∧ retOf out v ∧ repRVs w' rs out F' ∧ F'.Nodup ∧
      (∀ b ∈ F', w.heap.size ≤ b ∧ ∃ arr e, w'.heap[b]? = some (.cells arr e (0, 0))) ∧ (∃ e', w'.heap[g]? = some (.cells us'.toArray e' (0, 0))) ∧ repCells w' cs' us' Fc ∧ (∀ b ∈ Fc, b ∈ F) ∧ BelowM [g] w w'

def ancC : T → C
  | .int k n => .t (.int k n)
  | .bool b => .t (.bool b)
  | .str s => .t (.str s)
  | x => .anc x
theorem ancC_rep {O : List (Nat × Ob)} {G : Gh} {w : World} {x : T} {v : Value} {F : List Nat} (h : x.rep w v F) (him : Imm O G F) (hlt : ∀ b ∈ F, G.b b) : (ancC x).rep O G w v := by
  cases x with
  | int k n => exact ⟨F, h, him⟩
  | bool b => exact ⟨F, h, him⟩
  | str s => exact ⟨F, h, him⟩
  | _ => exact ⟨F, h, him, hlt⟩
theorem ancCs_rep {O : List (Nat × Ob)} {G : Gh} {w : World} : ∀ {xs : List T} {vs : List Value} {F : List Nat}, repCells w xs vs F → Imm O G F → (∀ b ∈ F, G.b b) → repCs O G w (xs.map ancC) vs
  | [], vs, F, h, _, _ => by simp only [repCells] at h; exact h.1
  | x :: xs, vs, F, h, him, hlt => by
    simp only [repCells] at h
    obtain ⟨v, cs', F1, F2, h1, rfl, h3, h4⟩ := h
    exact ⟨v, cs', h1, ancC_rep h3 (him.sub (by simp +contextual)) (fun b hb => hlt b (by simp [hb])), ancCs_rep h4 (him.sub (by simp +contextual)) (fun b hb => hlt b (by simp [hb]))⟩

theorem tCs_rep {O : List (Nat × Ob)} {G : Gh} {w : World} : ∀ {xs : List T} {vs : List Value} {F : List Nat}, repCells w xs vs F → Imm O G F → repCs O G w (xs.map .t) vs
  | [], vs, F, h, _ => by simp only [repCells] at h; exact h.1
  | x :: xs, vs, F, h, him => by
    simp only [repCells] at h
    obtain ⟨v, cs', F1, F2, h1, rfl, h3, h4⟩ := h
    exact ⟨v, cs', h1, ⟨F1, h3, him.sub (by simp +contextual)⟩, tCs_rep h4 (him.sub (by simp +contextual))⟩

/-! ### The call -/
def cellsT : List C → Option (List T)
  | [] => some []
  | .t x :: r => bif isScal x then match cellsT r with | some ys => some (x :: ys) | none => none else none
  | .anc x :: r => match cellsT r with | some ys => some (x :: ys) | none => none
  | _ => none
def argT (O : List (Nat × Ob)) : C → Option T
  | .nil => some (.lst [])
  | .nil0 => some (.lst [])
  | .anc x => some x
  | .t x => some x
  | .ref id => match get O id with
    | some (.row _ _ _ rows) => some (.lst rows)
    | _ => none
  | _ => none
def argW (O : List (Nat × Ob)) : AV → Option V
  | .c x => match argT O x with | some y => some (.one y) | none => none
  | .agg xs => match mapO (argT O) xs with | some ys => some (.agg ys) | none => none
  | _ => none

section
variable {P : Program} {O : List (Nat × Ob)} {G : Gh} {w : World} {w0 : Base}

theorem cellsT_rep : ∀ {ds : List C} {cs : List T} {us : List Value}, cellsT ds = some cs → repCs O G w ds us → ∃ F, repCells w cs us F ∧ Imm O G F ∧ ∀ b ∈ F, G.b b
  | [], cs, us, h, hr => by
    simp only [cellsT, Option.some.injEq] at h
    subst h
    exact ⟨[], by simp only [repCells]; exact ⟨hr, trivial⟩, fun _ _ b hb => by simp at hb, by simp⟩
  | .t x :: r, cs, _, h, ⟨v, vs', e1, ⟨F, h3, h4⟩, h5⟩ => by
    simp only [cellsT] at h
    cases hs : isScal x with
    | false => simp [hs] at h
    | true =>
      simp only [hs, cond_true] at h
      split at h
      · rename_i ys hy
        injection h with h
        subst h e1
        have := scal_none hs h3
        subst this
        obtain ⟨F2, h6, h7, h8⟩ := cellsT_rep hy h5
        exact ⟨F2, by simp only [repCells]; exact ⟨_, _, [], F2, rfl, rfl, h3, h6⟩, h7, h8⟩
      · cases h
  | .anc x :: r, cs, _, h, ⟨v, vs', e1, ⟨F, h3, h4, h9⟩, h5⟩ => by
    simp only [cellsT] at h
    split at h
    · rename_i ys hy
      injection h with h
      subst h e1
      obtain ⟨F2, h6, h7, h8⟩ := cellsT_rep hy h5
      exact ⟨F ++ F2, by simp only [repCells]; exact ⟨_, _, F, F2, rfl, rfl, h3, h6⟩, fun id hl b hb => (List.mem_append.1 hb).elim (h4 id hl b) (h7 id hl b), fun b hb => (List.mem_append.1 hb).elim (h9 b) (h8 b)⟩
    · cases h
  | .nil :: _, _, _, h, _ => by cases h
  | .nil0 :: _, _, _, h, _ => by cases h
  | .ref _ :: _, _, _, h, _ => by cases h
  | .fn _ _ :: _, _, _, h, _ => by cases h
  | .view _ _ _ _ :: _, _, _, h, _ => by cases h

theorem argT_sound (hM : Mem w0 O G w) {id : Nat} {ds : List C} (hA : G.A id) (hg : get O id = some (.box ds)) {x : C} {y : T} {v : Value} (h : argT O x = some y) (hr : x.rep O G w v) : ∃ F, y.rep w v F ∧ ∀ b ∈ F, b ∉ G.h id := by
  have hlv : Lv O G id := ⟨hA, _, hg⟩
  cases x with
  | nil =>
    simp only [argT, Option.some.injEq] at h
    subst h
    have hr' : v = .slice none 0 0 := hr
    subst hr'
    exact ⟨[], by simp only [T.rep]; exact ⟨none, 0, rfl, Nat.le_refl _, .inl ⟨trivial, trivial⟩⟩, by simp⟩
  | nil0 =>
    simp only [argT, Option.some.injEq] at h
    subst h
    obtain ⟨A, hr⟩ := hr
    subst hr
    exact ⟨[], by simp only [T.rep]; exact ⟨A, 0, rfl, Nat.le_refl _, .inl ⟨trivial, trivial⟩⟩, by simp⟩
  | t x =>
    simp only [argT, Option.some.injEq] at h
    subst h
    obtain ⟨F, h1, h2⟩ := hr
    exact ⟨F, h1, fun b hb => h2 id hlv b hb⟩
  | anc x =>
    simp only [argT, Option.some.injEq] at h
    subst h
    obtain ⟨F, h1, h2, _⟩ := hr
    exact ⟨F, h1, fun b hb => h2 id hlv b hb⟩
  | ref k =>
    simp only [argT] at h
    split at h
    · rename_i own app sz rows hk
      injection h with h
      subst h
      obtain ⟨h1, h2, _⟩ := hr
      subst h2
      have hlk : Lv O G k := ⟨h1, _, hk⟩
      have hne : k ≠ id := fun e => by subst e; rw [hk] at hg; cases hg
      cases rows with
      | nil =>
        obtain ⟨css, F', h3, h4, h5, h6⟩ := hM.row h1 hk
        obtain ⟨A, c, h7, h8, _⟩ := h5
        exact ⟨[], by simp only [T.rep]; exact ⟨A, c, h7, h8, .inl ⟨trivial, trivial⟩⟩, by simp⟩
      | cons r rs =>
        obtain ⟨css, F', h3, h4, h5, h6⟩ := hM.row h1 hk
        obtain ⟨F, h7, h8⟩ := h5.rep h3 h4
        refine ⟨F, h7, fun b hb hbi => ?_⟩
        rcases h8 with h8 | h8
        · rw [h8] at hb
          rcases List.mem_append.1 hb with hb | hb
          · have hhk : G.h k = hd (G.φ k) := by
              obtain ⟨css', F2, q1, q2, q3, q4⟩ := hM.obs k _ h1 hk
              cases app with
              | true => simp only [if_true] at q3; exact q3.2
              | false =>
                simp only [Bool.false_eq_true, if_false] at q3
                rcases q3.2 with q5 | ⟨q5, _⟩
                · exact q5
                · cases q5
            rw [← hhk] at hb
            exact hM.disj k id hlk hlv hne b (hM.hds k hlk b hb) (hM.hds id hlv b hbi)
          · exact h6 id hlv b hb hbi
        · rw [h8] at hb; cases hb
    · cases h
  | fn f ids => simp [argT] at h
  | view id sz lo hi => simp [argT] at h
theorem argTs_sound (hM : Mem w0 O G w) {id : Nat} {ds : List C} (hA : G.A id) (hg : get O id = some (.box ds)) : ∀ {xs : List C} {ys : List T} {vs : List Value}, mapO (argT O) xs = some ys → repCs O G w xs vs → ∃ F, repCells w ys vs F ∧ ∀ b ∈ F, b ∉ G.h id
  | [], ys, vs, h, hr => by simp only [mapO, Option.some.injEq] at h; subst h; exact ⟨[], by simp only [repCells]; exact ⟨hr, trivial⟩, by simp⟩
  | x :: xs, ys, vs, h, ⟨v, vs', h1, h2, h3⟩ => by
    simp only [mapO] at h
    split at h
    · rename_i y ys' e1 e2
      injection h with h
      subst h h1
      obtain ⟨F1, h4, n1⟩ := argT_sound hM hA hg e1 h2
      obtain ⟨F2, h5, n2⟩ := argTs_sound hM hA hg e2 h3
      exact ⟨F1 ++ F2, by simp only [repCells]; exact ⟨v, vs', F1, F2, rfl, rfl, h4, h5⟩, fun b hb => (List.mem_append.1 hb).elim (n1 b) (n2 b)⟩
    · cases h
theorem argWs_sound (hM : Mem w0 O G w) {id g : Nat} {ds : List C} (hA : G.A id) (hg : get O id = some (.box ds)) (hh : g ∈ G.h id) : ∀ {xs : List AV} {ys : List V} {vs : List Value}, mapO (argW O) xs = some ys → repAVs O G w xs vs → repVsG w g ys vs
  | [], ys, vs, h, hr => by simp only [mapO, Option.some.injEq] at h; subst h; simp only [repAVs] at hr; exact hr
  | x :: xs, ys, vs, h, hr => by
    simp only [repAVs] at hr
    obtain ⟨v, vs', h1, h2, h3⟩ := hr
    simp only [mapO] at h
    split at h
    · rename_i y ys' e1 e2
      injection h with h
      subst h h1
      have hrest := argWs_sound hM hA hg hh e2 h3
      cases x with
      | c x =>
        simp only [argW] at e1
        split at e1
        · rename_i z e3
          injection e1 with e1
          subst e1
          simp only [AV.rep] at h2
          obtain ⟨F, h4, n⟩ := argT_sound hM hA hg e3 h2
          exact ⟨v, vs', F, rfl, ⟨h4, fun hb => n g hb hh⟩, hrest⟩
        · cases e1
      | agg xs =>
        simp only [argW] at e1
        split at e1
        · rename_i z e3
          injection e1 with e1
          subst e1
          simp only [AV.rep] at h2
          obtain ⟨us, h5, h6⟩ := h2
          obtain ⟨F, h4, n⟩ := argTs_sound hM hA hg e3 h6
          exact ⟨v, vs', F, rfl, ⟨⟨us, h5, h4⟩, fun hb => n g hb hh⟩, hrest⟩
        · cases e1
      | _ => simp [argW] at e1
    · cases h

/-- What a call with a pointer to a box does to a state: the box shows other cells, new objects are laid. -/
theorem cur_step {O' : List (Nat × Ob)} {w' : World} (hM : Mem w0 O G w) {id : Nat} {ds : List C} (hA : G.A id) (hg : get O id = some (.box ds)) {g : Nat} {us us' : List Value} {e e' : TypeId} (b1 : G.φ id = .pointer (some ⟨g, 0, none⟩)) (b2 : w.heap[g]? = some (.cells (List.toArray us) e (0, 0)))
    (b4 : G.Φ id = [g]) (b5 : G.h id = [g]) {F F' Fc : List Nat} {cs cs' : List T} (hF : repCells w cs us F) (himm : Imm O G F) (hold0 : ∀ b ∈ F, G.b b) (hnd0 : F'.Nodup) (hfresh : ∀ b ∈ F', w.heap.size ≤ b ∧ ∃ arr e, w'.heap[b]? = some (.cells arr e (0, 0))) (hheap' : w'.heap[g]? = some (.cells us'.toArray e' (0, 0)))
    (hcs' : repCells w' cs' us' Fc) (hFc : ∀ b ∈ Fc, b ∈ F) (hbel : BelowM [g] w w') {σ1 σ2 : St} {l : List (Value × List Nat)} {R : List (Nat × Ob) → Gh → Prop} (imp : Imp w' σ1 σ2 l F' R)
    (hlt : ∀ j, σ1.next ≤ j → j < σ1.next + l.length → ¬ G.A j) (hid' : get O' id = some (.box (cs'.map ancC))) (hold : ∀ j, G.A j → j ≠ id → get O' j = get O j) (hnew : ∀ k, k < l.length → get O' (σ1.next + k) = get σ2.objs (σ1.next + k)) :
    Mem w0 O' (G.addL σ1.next l) w' ∧ Pres O G w O' (G.addL σ1.next l) w' := by
  have hlv : Lv O G id := ⟨hA, _, hg⟩
  have hgh : g ∈ G.h id := by rw [b5]; simp
  have hFlt := repCells_lt cs us F hF
  have hgs : g < w.heap.size := (Array.getElem?_eq_some_iff.1 b2).1
  have hflat := imp.flat
  have hnd := nodup_flat_get (l := l.map (·.2)) (by rw [hflat]; exact hnd0)
  have hin : ∀ p ∈ l, ∀ b ∈ p.2, b ∈ F' := fun p hp b hb => by rw [← hflat]; exact List.mem_flatten.2 ⟨p.2, List.mem_map.2 ⟨p, hp, rfl⟩, hb⟩
  have hX : ∀ j, (σ1.next ≤ j ∧ j < σ1.next + l.length) → ∃ k, ∃ hk : k < l.length, j = σ1.next + k := fun j h => ⟨j - σ1.next, by omega, by omega⟩
  have hid := Gh.addL_old (l := l) hlt hA
  exact Mem.step (G' := G.addL σ1.next l) (O' := O') (w' := w') hM (fun j => Lv O G j ∧ j ≠ id) (fun j => j = id ∨ (σ1.next ≤ j ∧ j < σ1.next + l.length))
    (fun j h => ⟨.inl h, (Gh.addL_old hlt h).1⟩) ⟨rfl, rfl⟩ (fun j h => ⟨h.1, hold j h.1.1 h.2, (Gh.addL_old hlt h.1.1).2⟩)
    (fun j h => by
      by_cases e : j = id
      · exact .inr (.inl e)
      · rcases h.1 with h1 | h1
        · obtain ⟨o, ho⟩ := h.2
          rw [hold j h1 e] at ho
          exact .inl ⟨⟨h1, o, ho⟩, e⟩
        · exact .inr (.inr h1))
    hbel.os hbel.tape hbel.output hbel.size
    (fun b hb hn => hbel.block b hb (fun hbg => by
      have : b = g := by simpa using hbg
      subst this
      exact hn id hlv (fun h => h.2 rfl) hgh))
    (fun j hj => by
      rcases hj with rfl | hj
      · rw [hid.2.1, b4]; simp
      · obtain ⟨k, hk, rfl⟩ := hX j hj
        rw [(Gh.addL_new hk).2.1]
        have h := hnd.1 k (by simpa using hk)
        rwa [List.getElem_map] at h)
    (fun i j hi hj hne b hbi hbj => by
      have new : ∀ j, (σ1.next ≤ j ∧ j < σ1.next + l.length) → b ∈ (G.addL σ1.next l).Φ j → w.heap.size ≤ b := fun j hj hb => by
        obtain ⟨k, hk, rfl⟩ := hX j hj
        rw [(Gh.addL_new hk).2.1] at hb
        exact (hfresh b (hin _ (List.getElem_mem hk) b hb)).1
      have old : b ∈ (G.addL σ1.next l).Φ id → b = g := fun hb => by rw [hid.2.1, b4] at hb; simpa using hb
      rcases hi with rfl | hi <;> rcases hj with rfl | hj
      · exact hne rfl
      · have h1 := old hbi; have h2 := new j hj hbj; omega
      · have h1 := old hbj; have h2 := new i hi hbi; omega
      · obtain ⟨k, hk, rfl⟩ := hX i hi
        obtain ⟨m, hm, rfl⟩ := hX j hj
        rw [(Gh.addL_new hk).2.1] at hbi
        rw [(Gh.addL_new hm).2.1] at hbj
        have := hnd.2 k m (by simpa using hk) (by simpa using hm) (by omega) b
        rw [List.getElem_map, List.getElem_map] at this
        exact this hbi hbj)
    (fun j hj b hb => by
      rcases hj with rfl | hj
      · rw [hid.2.1] at hb
        refine ⟨.inr ⟨j, hlv, fun h => h.2 rfl, hb⟩, ?_⟩
        rw [b4] at hb
        have : b = g := by simpa using hb
        subst this
        exact ⟨_, _, hheap'⟩
      · obtain ⟨k, hk, rfl⟩ := hX j hj
        rw [(Gh.addL_new hk).2.1] at hb
        obtain ⟨h1, h2⟩ := hfresh b (hin _ (List.getElem_mem hk) b hb)
        exact ⟨.inl h1, h2⟩)
    (fun j hj b hb => by
      rcases hj with rfl | hj
      · rw [hid.2.2] at hb
        exact ⟨by rw [hid.2.1]; exact hM.hds j hlv b hb, .inr ⟨j, hlv, hb⟩⟩
      · obtain ⟨k, hk, rfl⟩ := hX j hj
        rw [(Gh.addL_new hk).2.2] at hb
        rw [(Gh.addL_new hk).2.1]
        have h1 := imp.hds _ (List.getElem_mem hk) b hb
        exact ⟨h1, .inl (hfresh b (hin _ (List.getElem_mem hk) b h1)).1⟩)
    (fun j o hj hAj hgo p => by
      rcases hj with rfl | hj
      · rw [hid'] at hgo
        injection hgo with hgo
        subst hgo
        exact ⟨g, us', e', hid.1.trans b1, hheap', ancCs_rep hcs' ((himm.sub hFc).pres (fun b hb => hFlt b (hFc b hb)) p) (fun b hb => hold0 b (hFc b hb)), hid.2.1.trans b4, hid.2.2.trans b5⟩
      · obtain ⟨k, hk, rfl⟩ := hX j hj
        have hn := Gh.addL_new (G := G) (n := σ1.next) hk
        exact imp.obs k hk o (by rw [← hnew k hk]; exact hgo) _ _ hn.1 hn.2)

/-- The same arguments read alike where the box shows other cells. -/
theorem argW_mono {O' : List (Nat × Ob)} {id : Nat} {ds : List C} (hg : get O id = some (.box ds)) (hsub : ∀ j ob, j ≠ id → get O j = some ob → get O' j = some ob) : ∀ (xs : List AV) {ys : List V}, mapO (argW O) xs = some ys → mapO (argW O') xs = some ys := by
  have m1 : ∀ (x : C) {y : T}, argT O x = some y → argT O' x = some y := by
    intro x y h
    cases x with
    | ref k =>
      simp only [argT] at h ⊢
      split at h
      · rename_i own app sz rows hk
        have hne : k ≠ id := fun e => by subst e; rw [hk] at hg; cases hg
        rw [hsub k _ hne hk]
        exact h
      · cases h
    | _ => exact h
  have m2 : ∀ (xs : List C) {ys : List T}, mapO (argT O) xs = some ys → mapO (argT O') xs = some ys := by
    intro xs
    induction xs with
    | nil => intro ys h; exact h
    | cons x xs ih =>
      intro ys h
      simp only [mapO] at h ⊢
      split at h
      · rename_i y ys' e1 e2
        rw [m1 x e1, ih e2]
        exact h
      · cases h
  intro xs
  induction xs with
  | nil => intro ys h; exact h
  | cons x xs ih =>
    intro ys h
    simp only [mapO] at h ⊢
    split at h
    · rename_i y ys' e1 e2
      have e1' : argW O' x = some y := by
        cases x with
        | c x =>
          simp only [argW] at e1 ⊢
          split at e1
          · rename_i z e3
            rw [m1 x e3]
            exact e1
          · cases e1
        | agg xs =>
          simp only [argW] at e1 ⊢
          split at e1
          · rename_i z e3
            rw [m2 xs e3]
            exact e1
          · cases e1
        | _ => simp [argW] at e1
      rw [e1', ih e2]
      exact h
    · cases h
end
end Go.Vm
