/-
  Functions that write in place: their contract, and what a call of one does to a state.
  The contract of a function that is called with a pointer to a box, and what such a call does to a state.
  The evaluator of code over abstract states, and its soundness over the machine: from it a function's contract.
  Conditions: the table of types fits the program ('TOk').
-/
import Derived.Test.YteecgbgdmfjogaaGreatVmM
import Derived.LoopN
namespace Go.Vm
open Go.RowKit

/-! ### What a write in place leaves alone -/
def safeC : C → Bool
  | .t x => isScal x
  | _ => true
def safeAV : AV → Bool
  | .c x => safeC x
  | .agg xs => xs.all safeC
  | .pin (.c x) => safeC x
  | .pin (.ptr ..) => true
  | .pin (.agg xs) => xs.all safeC
  | .ptr .. | .iptr .. | .junk | .nilq _ | .any => true
  | _ => false
def safeOb : Ob → Bool
  | .box cs => cs.all safeC
  | .row own .. => own
  | .tmp _ rows => rows.all fun r => r.all safeC
  | .vw _ => false
def filtD {α : Type} (p : α → Bool) : List Nat → List (Nat × α) → List (Nat × α)
  | _, [] => []
  | dead, (k, v) :: r => bif notIn k dead then (bif p v then (k, v) :: filtD p (k :: dead) r else filtD p (k :: dead) r) else filtD p dead r

theorem notIn_of {n : Nat} : ∀ {l : List Nat}, n ∉ l → notIn n l = true
  | [], _ => rfl
  | k :: r, h => by
    simp only [List.mem_cons, not_or] at h
    simp only [notIn, beq_ne h.1, notIn_of h.2, Bool.not_false, Bool.and_self]
theorem get_filtD {α : Type} {p : α → Bool} : ∀ {dead : List Nat} {l : List (Nat × α)} {k : Nat} {v : α}, get (filtD p dead l) k = some v → k ∉ dead ∧ get l k = some v ∧ p v = true
  | dead, [], k, v, h => by cases h
  | dead, (q, u) :: r, k, v, h => by
    cases hq : notIn q dead with
    | false =>
      simp only [filtD, hq, cond_false] at h
      obtain ⟨h1, h2, h3⟩ := get_filtD h
      have hne : q ≠ k := fun e => by subst e; rw [notIn_of h1] at hq; cases hq
      exact ⟨h1, by rw [get_cons_other _ _ _ _ (Ne.symm hne)]; exact h2, h3⟩
    | true =>
      have hq' := notIn_iff hq
      cases hp : p u with
      | true =>
        simp only [filtD, hq, hp, cond_true] at h
        by_cases e : k = q
        · subst e
          rw [get_cons_same] at h
          injection h with h
          subst h
          exact ⟨hq', get_cons_same _ _ _, hp⟩
        · rw [get_cons_other _ _ _ _ e] at h
          obtain ⟨h1, h2, h3⟩ := get_filtD h
          simp only [List.mem_cons, not_or] at h1
          exact ⟨h1.2, by rw [get_cons_other _ _ _ _ e]; exact h2, h3⟩
      | false =>
        simp only [filtD, hq, hp, cond_true, cond_false] at h
        obtain ⟨h1, h2, h3⟩ := get_filtD h
        simp only [List.mem_cons, not_or] at h1
        exact ⟨h1.2, by rw [get_cons_other _ _ _ _ h1.1]; exact h2, h3⟩

section
variable {O O' : List (Nat × Ob)} {G G' : Gh} {w w' : World} {w0 : Base}

theorem safeC_rep (hA : ∀ id, G.A id → G'.A id ∧ G'.φ id = G.φ id) (hfix : G'.b = G.b ∧ G'.pin = G.pin) (hlow : ∀ b, G.b b → w'.heap[b]? = w.heap[b]?) (hhi : ∀ id, Lv O' G' id → ∀ b ∈ G'.h id, ¬ G'.b b)
    {x : C} {v : Value} (hs : safeC x = true) (h : x.rep O G w v) : x.rep O' G' w' v := by
  cases x with
  | nil => exact h
  | nil0 => exact h
  | anc x =>
    obtain ⟨F, h1, _, h3⟩ := h
    exact ⟨F, T.rep_keep x v F h1 (fun b hb => hlow b (h3 b hb)), fun id hl b hb hbh => by
      have h4 := hhi id hl b hbh
      have h5 := h3 b hb
      rw [hfix.1] at h4
      exact h4 h5, fun b hb => by rw [hfix.1]; exact h3 b hb⟩
  | t x =>
    obtain ⟨F, h1, _⟩ := h
    have := scal_none hs h1
    subst this
    exact ⟨[], T.rep_keep x v [] h1 (by simp), fun _ _ b hb => by simp at hb⟩
  | ref id => exact ⟨(hA id h.1).1, by rw [(hA id h.1).2]; exact h.2.1, h.2.2⟩
  | fn f ids => exact ⟨by rw [h.1, List.map_congr_left (fun id hi => (hA id (h.2 id hi)).2)], fun id hi => (hA id (h.2 id hi)).1⟩
  | view id sz lo hi =>
    obtain ⟨h1, h2, A, c, h3, h0, h4⟩ := h
    exact ⟨(hA id h1).1, h2, A, c, h3, h0, fun hl => by
      obtain ⟨ad, n, c', h5, h6⟩ := h4 hl
      exact ⟨ad, n, c', (hA id h1).2.trans h5, h6⟩⟩
theorem safeCs_rep (hA : ∀ id, G.A id → G'.A id ∧ G'.φ id = G.φ id) (hfix : G'.b = G.b ∧ G'.pin = G.pin) (hlow : ∀ b, G.b b → w'.heap[b]? = w.heap[b]?) (hhi : ∀ id, Lv O' G' id → ∀ b ∈ G'.h id, ¬ G'.b b) : ∀ {xs : List C} {vs : List Value}, xs.all safeC = true → repCs O G w xs vs → repCs O' G' w' xs vs
  | [], vs, _, h => h
  | x :: xs, _, hs, ⟨v, vs', h1, h2, h3⟩ => by
    simp only [List.all_cons, Bool.and_eq_true] at hs
    exact ⟨v, vs', h1, safeC_rep hA hfix hlow hhi hs.1 h2, safeCs_rep hA hfix hlow hhi hs.2 h3⟩
theorem safeCss_rep (hA : ∀ id, G.A id → G'.A id ∧ G'.φ id = G.φ id) (hfix : G'.b = G.b ∧ G'.pin = G.pin) (hlow : ∀ b, G.b b → w'.heap[b]? = w.heap[b]?) (hhi : ∀ id, Lv O' G' id → ∀ b ∈ G'.h id, ¬ G'.b b) : ∀ {xs : List (List C)} {vs : List (List Value)}, (xs.all fun r => r.all safeC) = true → repCss O G w xs vs → repCss O' G' w' xs vs
  | [], vs, _, h => h
  | x :: xs, _, hs, ⟨v, vs', h1, h2, h3⟩ => by
    simp only [List.all_cons, Bool.and_eq_true] at hs
    exact ⟨v, vs', h1, safeCs_rep hA hfix hlow hhi hs.1 h2, safeCss_rep hA hfix hlow hhi hs.2 h3⟩
theorem safeAV_rep (hA : ∀ id, G.A id → G'.A id ∧ G'.φ id = G.φ id) (hfix : G'.b = G.b ∧ G'.pin = G.pin) (hlow : ∀ b, G.b b → w'.heap[b]? = w.heap[b]?) (hhi : ∀ id, Lv O' G' id → ∀ b ∈ G'.h id, ¬ G'.b b)
    {x : AV} {v : Value} (hs : safeAV x = true) (h : x.rep O G w v) : x.rep O' G' w' v := by
  cases x with
  | c x => simp only [AV.rep] at h ⊢; exact safeC_rep hA hfix hlow hhi hs h
  | agg xs => simp only [AV.rep] at h ⊢; obtain ⟨vs, h1, h2⟩ := h; exact ⟨vs, h1, safeCs_rep hA hfix hlow hhi hs h2⟩
  | tup xs => simp [safeAV] at hs
  | ptr id off =>
    simp only [AV.rep] at h ⊢
    obtain ⟨h1, ad, h2, h3⟩ := h
    exact ⟨(hA id h1).1, ad, (hA id h1).2.trans h2, h3⟩
  | iptr id sz i off =>
    simp only [AV.rep] at h ⊢
    obtain ⟨h1, ad, n, c, h2, h3⟩ := h
    exact ⟨(hA id h1).1, ad, n, c, (hA id h1).2.trans h2, h3⟩
  | sptr cells off => simp [safeAV] at hs
  | frm ks vs => simp [safeAV] at hs
  | any => simp only [AV.rep]
  | junk => simp only [AV.rep] at h ⊢; exact h
  | nilq rows => simp only [AV.rep] at h ⊢; exact h
  | pin x =>
    cases x with
    | c x => simp only [AV.rep] at h ⊢; exact ⟨safeC_rep hA hfix hlow hhi hs h.1, by rw [hfix.2]; exact h.2⟩
    | agg xs => simp only [AV.rep] at h ⊢; obtain ⟨⟨vs, h1, h2⟩, h3⟩ := h; exact ⟨⟨vs, h1, safeCs_rep hA hfix hlow hhi hs h2⟩, by rw [hfix.2]; exact h3⟩
    | ptr id off =>
      simp only [AV.rep] at h ⊢
      obtain ⟨⟨h1, ad, h2, h3⟩, h4⟩ := h
      exact ⟨⟨(hA id h1).1, ad, (hA id h1).2.trans h2, h3⟩, by rw [hfix.2]; exact h4⟩
    | _ => simp [safeAV] at hs

/-- A write in place: it may change the blocks of the objects of 'S' and make new ones. -/
theorem Mem.mut (hM : Mem w0 O G w) (S : List Nat) (hS : ∀ i ∈ S, Lv O G i) (F : List Nat) (hF : ∀ b ∈ F, ∃ i, i ∈ S ∧ b ∈ G.Φ i) (hb : BelowM F w w')
    (hA : ∀ id, G.A id → G'.A id ∧ G'.φ id = G.φ id) (hA' : ∀ id, G'.A id → G.A id) (hfix : G'.b = G.b ∧ G'.pin = G.pin)
    (hK : ∀ id, id ∉ S → G'.Φ id = G.Φ id ∧ G'.h id = G.h id)
    (hO : ∀ id o, id ∉ S → get O' id = some o → get O id = some o ∧ safeOb o = true)
    (hXn : ∀ id, id ∈ S → (G'.Φ id).Nodup)
    (hXd : ∀ i j, i ∈ S → j ∈ S → i ≠ j → ∀ b ∈ G'.Φ i, b ∉ G'.Φ j)
    (hXlo : ∀ id, id ∈ S → ∀ b ∈ G'.Φ id, ((∃ i, i ∈ S ∧ b ∈ G.Φ i) ∨ w.heap.size ≤ b) ∧ ∃ arr e, w'.heap[b]? = some (.cells arr e (0, 0)))
    (hXh : ∀ id, id ∈ S → ∀ b ∈ G'.h id, b ∈ G'.Φ id)
    (hXr : ∀ id, id ∈ S → ∀ o, get O' id = some o → o.rep O' G' w' id) :
    Mem w0 O' G' w' ∧ ∀ av v, safeAV av = true → av.rep O G w v → av.rep O' G' w' v := by
  have hlt : ∀ id, Lv O G id → ∀ b ∈ G.Φ id, b < w.heap.size := fun id hl b hb => by
    obtain ⟨_, arr, e, h⟩ := hM.lo id hl b hb
    exact (Array.getElem?_eq_some_iff.1 h).1
  have old : ∀ id, id ∉ S → Lv O' G' id → Lv O G id ∧ ∃ o, get O' id = some o ∧ get O id = some o ∧ safeOb o = true := fun id hs ⟨ha, o, ho⟩ => by
    obtain ⟨h1, h2⟩ := hO id o hs ho
    exact ⟨⟨hA' id ha, o, h1⟩, o, ho, h1, h2⟩
  have keep : ∀ id, id ∉ S → Lv O G id → ∀ b ∈ G.Φ id, w'.heap[b]? = w.heap[b]? := fun id hs hl b hbb => by
    refine hb.block b (hlt id hl b hbb) (fun hbF => ?_)
    obtain ⟨i, hi, hbi⟩ := hF b hbF
    exact hM.disj id i hl (hS i hi) (fun e => hs (e ▸ hi)) b hbb hbi
  have hlo : ∀ id, Lv O' G' id → ∀ b ∈ G'.Φ id, ((w0.w.heap.size ≤ b ∨ b ∈ w0.M) ∧ ¬ w0.b b) ∧ ∃ arr e, w'.heap[b]? = some (.cells arr e (0, 0)) := by
    intro id hl b hbb
    by_cases hs : id ∈ S
    · obtain ⟨h1, h2⟩ := hXlo id hs b hbb
      refine ⟨?_, h2⟩
      rcases h1 with ⟨i, hi, hbi⟩ | h1
      · exact (hM.lo i (hS i hi) b hbi).1
      · exact ⟨.inl (Nat.le_trans hM.below.size h1), fun hb => Nat.lt_irrefl _ (Nat.lt_of_lt_of_le (hM.base b hb) (Nat.le_trans hM.below.size h1))⟩
    · obtain ⟨h1, _⟩ := old id hs hl
      rw [(hK id hs).1] at hbb
      obtain ⟨h2, arr, e, h3⟩ := hM.lo id h1 b hbb
      exact ⟨h2, arr, e, by rw [keep id hs h1 b hbb]; exact h3⟩
  have hhd : ∀ id, Lv O' G' id → ∀ b ∈ G'.h id, b ∈ G'.Φ id := by
    intro id hl b hbb
    by_cases hs : id ∈ S
    · exact hXh id hs b hbb
    · rw [(hK id hs).2] at hbb
      rw [(hK id hs).1]
      exact hM.hds id (old id hs hl).1 b hbb
  have hhi : ∀ id, Lv O' G' id → ∀ b ∈ G'.h id, ¬ G'.b b := fun id hl b hbb => by
    have := (hlo id hl b (hhd id hl b hbb)).1.2
    rw [hfix.1, hM.fix.1]
    exact this
  have hlow : ∀ b, G.b b → w'.heap[b]? = w.heap[b]? := fun b hbb => by
    have h1 : w0.b b := by rw [← hM.fix.1]; exact hbb
    have h2 := hM.base b h1
    have h3 := hM.below.size
    refine hb.block b (by omega) (fun hbF => ?_)
    obtain ⟨i, hi, hbi⟩ := hF b hbF
    exact (hM.lo i (hS i hi) b hbi).1.2 h1
  refine ⟨⟨hM.below.trans' hb.os hb.tape hb.output hb.size (fun b hbl hbm => hb.block b (Nat.lt_of_lt_of_le hbl hM.below.size) (fun hbF => ?_)), hM.base, ⟨hfix.1.trans hM.fix.1, hfix.2.trans hM.fix.2⟩,
    fun id o ha hg => ?_, fun id hl => ?_, fun i j hi hj hne => ?_, hlo, hhd⟩, fun av v hs h => safeAV_rep hA hfix hlow hhi hs h⟩
  · obtain ⟨i, hi, hbi⟩ := hF b hbF
    rcases (hM.lo i (hS i hi) b hbi).1.1 with h | h
    · omega
    · exact hbm h
  · by_cases hs : id ∈ S
    · exact hXr id hs o hg
    · obtain ⟨h1, h2⟩ := hO id o hs hg
      have hl : Lv O G id := ⟨hA' id ha, o, h1⟩
      have hob := hM.obs id o hl.1 h1
      have hk := keep id hs hl
      have hφ := (hA id hl.1).2
      obtain ⟨hΦ, hH⟩ := hK id hs
      cases o with
      | box cs =>
        obtain ⟨g, vs, e, h3, h4, h5, h6, h7⟩ := hob
        exact ⟨g, vs, e, hφ.trans h3, by rw [hk g (by simp [h6])]; exact h4, safeCs_rep hA hfix hlow hhi h2 h5, hΦ.trans h6, hH.trans h7⟩
      | row own app sz rows =>
        have h2' : own = true := h2
        subst h2'
        obtain ⟨css, F', h3, h4, h5, h6⟩ := hob
        simp only [if_true] at h6
        refine ⟨css, F', repRows_keep rows css F' h3 (fun b hbb => hk b (by simp [h6, hbb])), h4, ?_, by simp only [if_true]; rw [hΦ, hH]; exact h6⟩
        rw [hφ, hH]
        cases app with
        | true => simp only [if_true] at h5 ⊢; exact ⟨h5.1.keep (fun b hbb => hk b (hM.hds id hl b (by rw [h5.2]; exact hbb))), h5.2⟩
        | false =>
          simp only [Bool.false_eq_true, if_false] at h5 ⊢
          refine ⟨?_, h5.2⟩
          rcases h5.2 with h7 | ⟨rfl, h7⟩
          · exact h5.1.keep (fun b hbb => hk b (hM.hds id hl b (by rw [h7]; exact hbb)))
          · obtain ⟨A, c, e1, e2, _⟩ := h5.1
            exact ⟨A, c, e1, e2, fun h => absurd h (by simp)⟩
      | tmp sz rows =>
        obtain ⟨css, h3, h4, h5, h6, h7⟩ := hob
        exact ⟨css, safeCss_rep hA hfix hlow hhi h2 h3, h4, by rw [hφ]; exact h5.keep (fun b hbb => hk b (by rw [h6]; exact hbb)), by rw [hΦ, hφ]; exact h6, by rw [hH, hφ]; exact h7⟩
      | vw rows => cases (h2 : false = true)
  · by_cases hs : id ∈ S
    · exact hXn id hs
    · rw [(hK id hs).1]; exact hM.nodup id (old id hs hl).1
  · have sep : ∀ i j, i ∈ S → j ∉ S → Lv O' G' j → ∀ b ∈ G'.Φ i, b ∉ G'.Φ j := fun i j hi hj hlj b hbi hbj => by
      rw [(hK j hj).1] at hbj
      have hl := (old j hj hlj).1
      rcases (hXlo i hi b hbi).1 with ⟨i', hi', hbi'⟩ | h
      · exact hM.disj i' j (hS i' hi') hl (fun e => hj (e ▸ hi')) b hbi' hbj
      · have := hlt j hl b hbj
        omega
    by_cases hsi : i ∈ S <;> by_cases hsj : j ∈ S
    · exact hXd i j hsi hsj hne
    · exact sep i j hsi hsj hj
    · exact fun b hb1 hb2 => sep j i hsj hsi hi b hb2 hb1
    · rw [(hK i hsi).1, (hK j hsj).1]; exact hM.disj i j (old i hsi hi).1 (old j hsj hj).1 hne
end

/-! ### The contract of a function that writes in place -/
def RC.mrep (w : World) : RC → Value → List Nat → Prop
  | .s x, v, F => (isScal x = true ∧ x.rep w v []) ∧ F = []
  | .w sz rows, v, F => ∃ css F', repRows w rows css F' ∧ (∀ cs ∈ css, cs.length = sz) ∧ RowWeak w v rows.length sz css ∧ (F = hd v ++ F' ∨ (rows = [] ∧ F = []))
  | .l _ _, _, _ => False
def repMCs (w : World) : List RC → List Value → List Nat → Prop
  | [], vs, F => vs = [] ∧ F = []
  | x :: xs, vs, F => ∃ v vs' F1 F2, vs = v :: vs' ∧ F = F1 ++ F2 ∧ x.mrep w v F1 ∧ repMCs w xs vs' F2
def RV.mrep (w : World) : RV → Value → List Nat → Prop
  | .one x, v, F => x.mrep w v F
  | .agg xs, v, F => ∃ vs, v = .agg (List.toArray vs) ∧ repMCs w xs vs F

/-- The function changes what its first argument shows, in place, and returns one cell that lies in no memory. -/
def MutAt (P : Program) (f : FuncId) (m m' : RV) (as : List V) (y : T) : Prop :=
  Enter P f ∧ isScal y = true ∧ ∀ (w : World) (v : Value) (vs : List Value) (F : List Nat), m.mrep w v F → F.Nodup → (∀ b ∈ F, ∃ arr e, w.heap[b]? = some (.cells arr e (0, 0))) → repVs w as vs →
    Calls P f (v :: vs).toArray w fun e w' => ∃ u F', e = .returned u ∧ y.rep w' u [] ∧ m'.mrep w' v F' ∧ F'.Nodup ∧
      (∀ b ∈ F', (b ∈ F ∨ w.heap.size ≤ b) ∧ ∃ arr e, w'.heap[b]? = some (.cells arr e (0, 0))) ∧ BelowM F w w'

/-! ### A call on objects -/
def mC (O : List (Nat × Ob)) : C → Option (RC × List Nat)
  | .t x => bif isScal x then some (.s x, []) else none
  | .ref id => match get O id with
    | some (.row true _ sz rows) => some (.w sz rows, [id])
    | _ => none
  | _ => none
def mCs (O : List (Nat × Ob)) : List C → Option (List RC × List Nat)
  | [] => some ([], [])
  | x :: xs => match mC O x, mCs O xs with
    | some (r, i), some (rs, is) => some (r :: rs, i ++ is)
    | _, _ => none
def mAV (O : List (Nat × Ob)) : AV → Option (RV × List Nat)
  | .c x => match mC O x with | some (r, i) => some (.one r, i) | none => none
  | .agg xs => match mCs O xs with | some (rs, i) => some (.agg rs, i) | none => none
  | _ => none
def pC (O : List (Nat × Ob)) : C → RC → Option (List (Nat × Ob))
  | .t _, .s _ => some O
  | .ref id, .w sz rows => some (Vm.put O id (.row true false sz rows))
  | _, _ => none
def pCs (O : List (Nat × Ob)) : List C → List RC → Option (List (Nat × Ob))
  | [], [] => some O
  | x :: xs, r :: rs => match pC O x r with | some O1 => pCs O1 xs rs | none => none
  | _, _ => none
def pAV (O : List (Nat × Ob)) : AV → RV → Option (List (Nat × Ob))
  | .c x, .one r => pC O x r
  | .agg xs, .agg rs => pCs O xs rs
  | _, _ => none

def opM (P : Program) (vl : Operand → Option AV) (f : Operand) (args : Array Operand) (σ : St) (K : AV → St → Prop) : Prop :=
  need (vl f) fun
  | .c (.fn fid []) => match args.toList with
    | x :: rest => need (vl x) fun av => need (vals vl rest) fun avs => need (mapO (argV σ.objs) avs) fun as => need (mAV σ.objs av) fun m => nodupB m.2 = true ∧
        ∃ m' y, MutAt P fid m.1 m' as y ∧ need (pAV σ.objs av m') fun O' => K (.c (.t y)) ⟨filtD safeAV [] σ.env, filtD safeOb [] O', σ.next⟩
    | [] => False
  | _ => False

def Gh.upd (G : Gh) (l : List (Nat × (List Nat × List Nat))) : Gh where
  A := G.A
  φ := G.φ
  Φ := fun j => match get l j with | some p => p.1 | none => G.Φ j
  h := fun j => match get l j with | some p => p.2 | none => G.h j
  b := G.b
  pin := G.pin

section
variable {O O' : List (Nat × Ob)} {G G' : Gh} {w w' : World} {w0 : Base}

theorem mC_rep (hM : Mem w0 O G w) {x : C} {r : RC} {ids : List Nat} {v : Value} (h : mC O x = some (r, ids)) (hr : x.rep O G w v) : r.mrep w v (ids.map G.Φ).flatten ∧ ∀ i ∈ ids, Lv O G i := by
  cases x with
  | t x =>
    simp only [mC] at h
    cases hs : isScal x with
    | false => simp [hs] at h
    | true =>
      simp only [hs, cond_true, Option.some.injEq, Prod.mk.injEq] at h
      obtain ⟨rfl, rfl⟩ := h
      obtain ⟨F, h1, _⟩ := hr
      have := scal_none hs h1
      subst this
      exact ⟨⟨⟨hs, h1⟩, rfl⟩, by simp⟩
  | ref id =>
    simp only [mC] at h
    split at h
    · rename_i app sz rows hg
      simp only [Option.some.injEq, Prod.mk.injEq] at h
      obtain ⟨rfl, rfl⟩ := h
      obtain ⟨h1, h2, _⟩ := hr
      subst h2
      obtain ⟨css, F', h3, h4, h5, h6⟩ := hM.obs id _ h1 hg
      simp only [if_true] at h6
      refine ⟨?_, fun i hi => by rw [List.mem_singleton.1 hi]; exact ⟨h1, _, hg⟩⟩
      simp only [List.map_cons, List.map_nil, List.flatten_cons, List.flatten_nil, List.append_nil]
      cases app with
      | true =>
        simp only [if_true] at h5
        exact ⟨css, F', h3, h4, h5.1.weak h4, .inl (by rw [h6, h5.2])⟩
      | false =>
        simp only [Bool.false_eq_true, if_false] at h5
        refine ⟨css, F', h3, h4, h5.1, ?_⟩
        rcases h5.2 with h7 | ⟨h7, h8⟩
        · exact .inl (by rw [h6, h7])
        · subst h7
          simp only [repRows] at h3
          exact .inr ⟨rfl, by rw [h6, h8, h3.2]; rfl⟩
    · cases h
  | nil => simp [mC] at h
  | nil0 => simp [mC] at h
  | anc x => simp [mC] at h
  | fn f ids => simp [mC] at h
  | view id sz lo hi => simp [mC] at h
theorem mCs_rep (hM : Mem w0 O G w) : ∀ {xs : List C} {rs : List RC} {ids : List Nat} {vs : List Value}, mCs O xs = some (rs, ids) → repCs O G w xs vs → repMCs w rs vs (ids.map G.Φ).flatten ∧ ∀ i ∈ ids, Lv O G i
  | [], rs, ids, vs, h, hr => by
    simp only [mCs, Option.some.injEq, Prod.mk.injEq] at h
    obtain ⟨rfl, rfl⟩ := h
    exact ⟨⟨hr, rfl⟩, by simp⟩
  | x :: xs, rs, ids, vs, h, ⟨v, vs', h1, h2, h3⟩ => by
    simp only [mCs] at h
    split at h
    · rename_i r i rs' is e1 e2
      simp only [Option.some.injEq, Prod.mk.injEq] at h
      obtain ⟨rfl, rfl⟩ := h
      obtain ⟨a1, a2⟩ := mC_rep hM e1 h2
      obtain ⟨b1, b2⟩ := mCs_rep hM e2 h3
      refine ⟨⟨v, vs', _, _, h1, by rw [List.map_append, List.flatten_append], a1, b1⟩, fun j hj => ?_⟩
      rcases List.mem_append.1 hj with hj | hj
      · exact a2 j hj
      · exact b2 j hj
    · cases h

theorem flatΦ_nodup (hM : Mem w0 O G w) : ∀ {ids : List Nat}, ids.Nodup → (∀ i ∈ ids, Lv O G i) → ((ids.map G.Φ).flatten).Nodup
  | [], _, _ => by simp
  | i :: is, hn, hl => by
    obtain ⟨h1, h2⟩ := List.nodup_cons.1 hn
    simp only [List.map_cons, List.flatten_cons]
    refine List.nodup_append.2 ⟨hM.nodup i (hl i (by simp)), flatΦ_nodup hM h2 (fun j hj => hl j (by simp [hj])), fun b hb b' hb' e => ?_⟩
    subst e
    obtain ⟨F, hF, hbF⟩ := List.mem_flatten.1 hb'
    obtain ⟨j, hj, rfl⟩ := List.mem_map.1 hF
    exact hM.disj i j (hl i (by simp)) (hl j (by simp [hj])) (fun e => h1 (e ▸ hj)) b hb hbF
theorem mem_flatΦ {ids : List Nat} {b : Nat} (h : b ∈ (ids.map G.Φ).flatten) : ∃ i, i ∈ ids ∧ b ∈ G.Φ i := by
  obtain ⟨F, hF, hbF⟩ := List.mem_flatten.1 h
  obtain ⟨j, hj, rfl⟩ := List.mem_map.1 hF
  exact ⟨j, hj, hbF⟩

/-- What the objects of a call in place are afterwards. -/
structure Back (G : Gh) (w' : World) (O O' : List (Nat × Ob)) (ids : List Nat) (F : List Nat) (l : List (Nat × (List Nat × List Nat))) : Prop where
  keys : l.map (·.1) = ids
  flat : (l.map (·.2.1)).flatten = F
  hds : ∀ p ∈ l, ∀ b ∈ p.2.2, b ∈ p.2.1
  other : ∀ id, id ∉ ids → get O' id = get O id
  rep : ∀ p ∈ l, ∃ o, get O' p.1 = some o ∧ ∀ (O2 : List (Nat × Ob)) (G2 : Gh), G2.φ p.1 = G.φ p.1 → G2.Φ p.1 = p.2.1 → G2.h p.1 = p.2.2 → o.rep O2 G2 w' p.1

theorem pC_back {O0 : List (Nat × Ob)} {x : C} {r r' : RC} {ids : List Nat} {v : Value} {F' : List Nat} (h : mC O0 x = some (r, ids)) (hr : x.rep O0 G w v) (hp : pC O x r' = some O') (hm : r'.mrep w' v F') :
    ∃ l, Back G w' O O' ids F' l := by
  cases x with
  | t x =>
    simp only [mC] at h
    cases hs : isScal x with
    | false => simp [hs] at h
    | true =>
      simp only [hs, cond_true, Option.some.injEq, Prod.mk.injEq] at h
      obtain ⟨_, rfl⟩ := h
      cases r' with
      | s y =>
        simp only [pC, Option.some.injEq] at hp
        subst hp
        exact ⟨[], rfl, by rw [hm.2]; rfl, by simp, fun _ _ => rfl, by simp⟩
      | _ => simp [pC] at hp
  | ref id =>
    simp only [mC] at h
    split at h
    · simp only [Option.some.injEq, Prod.mk.injEq] at h
      obtain ⟨_, rfl⟩ := h
      obtain ⟨_, h2, _⟩ := hr
      cases r' with
      | w sz rows =>
        simp only [pC, Option.some.injEq] at hp
        subst hp
        obtain ⟨css, F2, h3, h4, h5, h6⟩ := hm
        rcases h6 with h6 | ⟨h6, h7⟩
        · refine ⟨[(id, (F', hd v))], rfl, by simp, by simp +contextual [h6], fun j hj => get_put_other _ _ _ _ (by simpa using hj), fun p hp => ?_⟩
          obtain rfl := List.mem_singleton.1 hp
          refine ⟨_, get_put_same _ _ _, fun O2 G2 e1 e2 e3 => ⟨css, F2, h3, h4, ?_, ?_⟩⟩
          · simp only [Bool.false_eq_true, if_false]
            simp only at e1 e3
            rw [e1, e3, ← h2]
            exact ⟨h5, .inl rfl⟩
          · simp only [if_true]
            simp only at e2 e3
            rw [e2, e3, h6]
        · subst h6 h7
          refine ⟨[(id, ([], []))], rfl, by simp, by simp, fun j hj => get_put_other _ _ _ _ (by simpa using hj), fun p hp => ?_⟩
          obtain rfl := List.mem_singleton.1 hp
          refine ⟨_, get_put_same _ _ _, fun O2 G2 e1 e2 e3 => ⟨css, [], ?_, h4, ?_, ?_⟩⟩
          · simp only [repRows] at h3 ⊢
            exact ⟨h3.1, trivial⟩
          · simp only [Bool.false_eq_true, if_false]
            simp only at e1 e3
            rw [e1, e3, ← h2]
            exact ⟨h5, .inr ⟨trivial, rfl⟩⟩
          · simp only [if_true]
            simp only at e2 e3
            rw [e2, e3]
            rfl
      | _ => simp [pC] at hp
    · cases h
  | nil => simp [mC] at h
  | nil0 => simp [mC] at h
  | anc x => simp [mC] at h
  | fn f ids => simp [mC] at h
  | view id sz lo hi => simp [mC] at h
theorem pCs_back {O0 : List (Nat × Ob)} : ∀ {xs : List C} {rs rs' : List RC} {ids : List Nat} {vs : List Value} {O O' : List (Nat × Ob)} {F' : List Nat}, mCs O0 xs = some (rs, ids) → ids.Nodup → repCs O0 G w xs vs → pCs O xs rs' = some O' → repMCs w' rs' vs F' →
    ∃ l, Back G w' O O' ids F' l
  | [], rs, rs', ids, vs, O, O', F', h, hn, hr, hp, hm => by
    simp only [mCs, Option.some.injEq, Prod.mk.injEq] at h
    obtain ⟨_, rfl⟩ := h
    cases rs' with
    | nil =>
      simp only [pCs, Option.some.injEq] at hp
      subst hp
      exact ⟨[], rfl, by rw [hm.2]; rfl, by simp, fun _ _ => rfl, by simp⟩
    | cons r rs => simp [pCs] at hp
  | x :: xs, rs, rs', ids, vs, O, O', F', h, hn, ⟨v, vs', h1, h2, h3⟩, hp, hm => by
    subst h1
    simp only [mCs] at h
    split at h
    · rename_i r i rs1 is e1 e2
      simp only [Option.some.injEq, Prod.mk.injEq] at h
      obtain ⟨_, rfl⟩ := h
      obtain ⟨hn1, hn2, hn3⟩ := List.nodup_append.1 hn
      cases rs' with
      | nil => simp [pCs] at hp
      | cons r' rs' =>
        simp only [pCs] at hp
        split at hp
        · rename_i O1 ep
          obtain ⟨u, us, F1, F2, e3, e4, m1, m2⟩ := hm
          injection e3 with e5 e6
          subst e4 e5 e6
          obtain ⟨l1, b1⟩ := pC_back e1 h2 ep m1
          obtain ⟨l2, b2⟩ := pCs_back e2 hn2 h3 hp m2
          refine ⟨l1 ++ l2, by rw [List.map_append, b1.keys, b2.keys], by rw [List.map_append, List.flatten_append, b1.flat, b2.flat], fun p hp => ?_, fun id hid => ?_, fun p hp => ?_⟩
          · rcases List.mem_append.1 hp with hp | hp
            · exact b1.hds p hp
            · exact b2.hds p hp
          · simp only [List.mem_append, not_or] at hid
            rw [b2.other id hid.2, b1.other id hid.1]
          · rcases List.mem_append.1 hp with hp | hp
            · obtain ⟨o, ho, hr⟩ := b1.rep p hp
              have hmem : p.1 ∈ i := by rw [← b1.keys]; exact List.mem_map.2 ⟨p, hp, rfl⟩
              exact ⟨o, by rw [b2.other p.1 (fun h => hn3 _ hmem _ h rfl)]; exact ho, hr⟩
            · exact b2.rep p hp
        · cases hp
    · cases h

theorem get_mem {α : Type} : ∀ {l : List (Nat × α)} {k : Nat} {v : α}, get l k = some v → (k, v) ∈ l
  | [], k, v, h => by cases h
  | (q, u) :: r, k, v, h => by
    by_cases e : k = q
    · subst e
      rw [get_cons_same] at h
      injection h with h
      subst h
      simp
    · rw [get_cons_other _ _ _ _ e] at h
      simp [get_mem h]
theorem get_none {α : Type} : ∀ {l : List (Nat × α)} {k : Nat}, k ∉ l.map (·.1) → get l k = none
  | [], _, _ => rfl
  | (q, u) :: r, k, h => by
    simp only [List.map_cons, List.mem_cons, not_or] at h
    rw [get_cons_other _ _ _ _ h.1]
    exact get_none h.2
theorem get_some {α : Type} : ∀ {l : List (Nat × α)} {k : Nat}, k ∈ l.map (·.1) → ∃ v, get l k = some v
  | [], _, h => by simp at h
  | (q, u) :: r, k, h => by
    by_cases e : k = q
    · subst e; exact ⟨u, get_cons_same _ _ _⟩
    · simp only [List.map_cons, List.mem_cons] at h
      obtain ⟨v, hv⟩ := get_some (l := r) (h.resolve_left e)
      exact ⟨v, by rw [get_cons_other _ _ _ _ e]; exact hv⟩

theorem flat_disj {l : List (Nat × (List Nat × List Nat))} (h : ((l.map (·.2.1)).flatten).Nodup) (hk : (l.map (·.1)).Nodup) : (∀ p ∈ l, p.2.1.Nodup) ∧ ∀ p ∈ l, ∀ q ∈ l, p.1 ≠ q.1 → ∀ b ∈ p.2.1, b ∉ q.2.1 := by
  induction l with
  | nil => simp
  | cons x xs ih =>
    simp only [List.map_cons, List.flatten_cons] at h hk
    obtain ⟨h1, h2, h3⟩ := List.nodup_append.1 h
    obtain ⟨k1, k2⟩ := List.nodup_cons.1 hk
    obtain ⟨i1, i2⟩ := ih h2 k2
    have mem : ∀ q ∈ xs, ∀ b ∈ q.2.1, b ∈ (xs.map (·.2.1)).flatten := fun q hq b hb => List.mem_flatten.2 ⟨_, List.mem_map.2 ⟨q, hq, rfl⟩, hb⟩
    refine ⟨fun p hp => ?_, fun p hp q hq hne b hb hb' => ?_⟩
    · rcases List.mem_cons.1 hp with rfl | hp
      · exact h1
      · exact i1 p hp
    · rcases List.mem_cons.1 hp with e1 | hp1 <;> rcases List.mem_cons.1 hq with e2 | hq1
      · exact hne (by rw [e1, e2])
      · subst e1; exact h3 b hb b (mem q hq1 b hb') rfl
      · subst e2; exact h3 b hb' b (mem p hp1 b hb) rfl
      · exact i2 p hp1 q hq1 hne b hb hb'

/-- Behind a call in place: the state's objects in the new world. -/
theorem Back.mem (hM : Mem w0 O G w) {ids : List Nat} {F' : List Nat} {l : List (Nat × (List Nat × List Nat))} (hB : Back G w' O O' ids F' l) (hn : ids.Nodup) (hl : ∀ i ∈ ids, Lv O G i) (hF' : F'.Nodup)
    (hFc : ∀ b ∈ F', (b ∈ (ids.map G.Φ).flatten ∨ w.heap.size ≤ b) ∧ ∃ arr e, w'.heap[b]? = some (.cells arr e (0, 0))) (hb : BelowM ((ids.map G.Φ).flatten) w w') :
    Mem w0 (filtD safeOb [] O') (G.upd l) w' ∧ ∀ av v, safeAV av = true → av.rep O G w v → av.rep (filtD safeOb [] O') (G.upd l) w' v := by
  have hk := hB.keys
  have hkn : (l.map (·.1)).Nodup := by rw [hk]; exact hn
  obtain ⟨d1, d2⟩ := flat_disj (by rw [hB.flat]; exact hF') hkn
  have at_ : ∀ id ∈ ids, ∃ p, p ∈ l ∧ p.1 = id ∧ (G.upd l).Φ id = p.2.1 ∧ (G.upd l).h id = p.2.2 := fun id hi => by
    obtain ⟨v, hv⟩ := get_some (l := l) (k := id) (by rw [hk]; exact hi)
    exact ⟨(id, v), get_mem hv, rfl, by simp only [Gh.upd, hv], by simp only [Gh.upd, hv]⟩
  have memF : ∀ p ∈ l, ∀ b ∈ p.2.1, b ∈ F' := fun p hp b hbb => by rw [← hB.flat]; exact List.mem_flatten.2 ⟨_, List.mem_map.2 ⟨p, hp, rfl⟩, hbb⟩
  refine Mem.mut hM ids hl ((ids.map G.Φ).flatten) (fun b hbb => mem_flatΦ hbb) hb (fun id h => ⟨h, rfl⟩) (fun id h => h) ⟨rfl, rfl⟩ (fun id hi => ?_) (fun id o hi ho => ?_) (fun id hi => ?_) (fun i j hi hj hne b hbi hbj => ?_) (fun id hi b hbb => ?_) (fun id hi b hbb => ?_) (fun id hi o ho => ?_)
  · have := get_none (l := l) (k := id) (by rw [hk]; exact hi)
    exact ⟨by simp only [Gh.upd, this], by simp only [Gh.upd, this]⟩
  · obtain ⟨_, h1, h2⟩ := get_filtD ho
    rw [hB.other id hi] at h1
    exact ⟨h1, h2⟩
  · obtain ⟨p, hp, _, h2, _⟩ := at_ id hi
    rw [h2]; exact d1 p hp
  · obtain ⟨p, hp, h1, h2, _⟩ := at_ i hi
    obtain ⟨q, hq, h3, h4, _⟩ := at_ j hj
    rw [h2] at hbi
    rw [h4] at hbj
    exact d2 p hp q hq (by rw [h1, h3]; exact hne) b hbi hbj
  · obtain ⟨p, hp, _, h2, _⟩ := at_ id hi
    rw [h2] at hbb
    obtain ⟨h3, h4⟩ := hFc b (memF p hp b hbb)
    exact ⟨h3.imp (fun h => mem_flatΦ h) (fun h => h), h4⟩
  · obtain ⟨p, hp, _, h2, h3⟩ := at_ id hi
    rw [h3] at hbb
    rw [h2]
    exact hB.hds p hp b hbb
  · obtain ⟨p, hp, h1, h2, h3⟩ := at_ id hi
    obtain ⟨o', ho', hr⟩ := hB.rep p hp
    rw [h1] at ho' hr
    obtain ⟨_, h4, _⟩ := get_filtD ho
    rw [ho'] at h4
    injection h4 with h4
    subst h4
    exact hr _ _ rfl h2 h3
end

section
variable {P : Program} {vl : Operand → Option AV} {σ : St}
variable {dst : Option Tmp} {type : TypeId} {pos : String} {after : Array Edge} {guard : Option (Nat × Bool)} {K : AV → St → Prop}

theorem mAV_rep {O : List (Nat × Ob)} {G : Gh} {w : World} {w0 : Base} (hM : Mem w0 O G w) {x : AV} {r : RV} {ids : List Nat} {v : Value} (h : mAV O x = some (r, ids)) (hr : x.rep O G w v) : r.mrep w v (ids.map G.Φ).flatten ∧ ∀ i ∈ ids, Lv O G i := by
  cases x with
  | c x =>
    simp only [mAV] at h
    split at h
    · rename_i r' i e
      simp only [Option.some.injEq, Prod.mk.injEq] at h
      obtain ⟨rfl, rfl⟩ := h
      simp only [AV.rep] at hr
      exact mC_rep hM e hr
    · cases h
  | agg xs =>
    simp only [mAV] at h
    split at h
    · rename_i r' i e
      simp only [Option.some.injEq, Prod.mk.injEq] at h
      obtain ⟨rfl, rfl⟩ := h
      simp only [AV.rep] at hr
      obtain ⟨vs, h1, h2⟩ := hr
      obtain ⟨h3, h4⟩ := mCs_rep hM e h2
      exact ⟨⟨vs, h1, h3⟩, h4⟩
    · cases h
  | _ => simp [mAV] at h
theorem pAV_back {O O' : List (Nat × Ob)} {G : Gh} {w w' : World} {x : AV} {r r' : RV} {ids : List Nat} {v : Value} {F' : List Nat} (h : mAV O x = some (r, ids)) (hn : ids.Nodup) (hr : x.rep O G w v) (hp : pAV O x r' = some O') (hm : r'.mrep w' v F') :
    ∃ l, Back G w' O O' ids F' l := by
  cases x with
  | c x =>
    simp only [mAV] at h
    split at h
    · rename_i r1 i e
      simp only [Option.some.injEq, Prod.mk.injEq] at h
      obtain ⟨_, rfl⟩ := h
      simp only [AV.rep] at hr
      cases r' with
      | one r' => exact pC_back e hr hp hm
      | agg rs => simp [pAV] at hp
    · cases h
  | agg xs =>
    simp only [mAV] at h
    split at h
    · rename_i r1 i e
      simp only [Option.some.injEq, Prod.mk.injEq] at h
      obtain ⟨_, rfl⟩ := h
      simp only [AV.rep] at hr
      obtain ⟨vs, h1, h2⟩ := hr
      cases r' with
      | one r' => simp [pAV] at hp
      | agg rs =>
        obtain ⟨us, h3, h4⟩ := hm
        rw [h1] at h3
        injection h3 with h3
        have h5 : vs = us := by simpa using congrArg Array.toList h3
        subst h5
        exact pCs_back e hn h2 hp h4
    · cases h
  | _ => simp [mAV] at h

theorem opM_sound (hw : σ.wf) {f : Operand} {args : Array Operand} {argTypes : Array TypeId} (h : opM P vl f args σ K) :
    ∃ av σ', K av σ' ∧ σ'.next = σ.next ∧ σ'.wf ∧ (∀ k x, get σ'.env k = some x → get σ.env k = some x ∧ safeAV x = true) ∧
      ∀ (w0 : Base) G w a (Kc : Act → World → Prop) (Q : Exit → Act → World → Prop), Mem w0 σ.objs G w → OpsRep vl (Op.call { callee := .value f, args, argTypes }) σ.objs G w a →
        (∀ G' v w', Mem w0 σ'.objs G' w' → (∀ x u, safeAV x = true → x.rep σ.objs G w u → x.rep σ'.objs G' w' u) → av.rep σ'.objs G' w' v → (∀ j, G'.A j → G.A j) → Kc (a.put dst v) w') →
        Oper.wp P ⟨dst, .call { callee := .value f, args, argTypes }, type, pos, after, guard⟩ a w Kc Q := by
  unfold opM at h
  have h' := need_some h; clear h
  obtain ⟨vf, ef, h⟩ := h'
  split at h
  case h_2 => exact h.elim
  rename_i fid
  obtain ⟨args⟩ := args
  simp only at h
  split at h
  case h_2 => exact h.elim
  rename_i x rest
  have h' := need_some h; clear h
  obtain ⟨av, eav, h⟩ := h'
  have h' := need_some h; clear h
  obtain ⟨avs, eavs, h⟩ := h'
  have h' := need_some h; clear h
  obtain ⟨as, eas, h⟩ := h'
  have h' := need_some h; clear h
  obtain ⟨⟨m, ids⟩, em, h⟩ := h'
  obtain ⟨hnd, m', y, hmut, h⟩ := h
  have h' := need_some h; clear h
  obtain ⟨O', eO, h⟩ := h'
  obtain ⟨hent, hy, hrun⟩ := hmut
  have hids := nodupB_iff hnd
  have hO' : ∀ id o, get O' id = some o → id < σ.next := by
    have hput : ∀ {O : List (Nat × Ob)} {x : C} {r : RC} {O1 : List (Nat × Ob)}, (∀ id o, get O id = some o → id < σ.next) → (∀ id, x = .ref id → ∃ o, get σ.objs id = some o) → pC O x r = some O1 → ∀ id o, get O1 id = some o → id < σ.next := by
      intro O x r O1 hO hx hp id o ho
      cases x <;> cases r <;> simp only [pC, Option.some.injEq] at hp <;> try cases hp
      · exact hO id o ho
      · rename_i j sz rows
        by_cases e : id = j
        · subst e
          obtain ⟨o', ho'⟩ := hx id rfl
          exact hw id o' ho'
        · rw [get_put_other _ _ _ _ e] at ho
          exact hO id o ho
    have href : ∀ {x : C} {q : RC × List Nat}, mC σ.objs x = some q → ∀ id, x = .ref id → ∃ o, get σ.objs id = some o := by
      intro x q hq id e
      subst e
      simp only [mC] at hq
      split at hq
      · rename_i hg; exact ⟨_, hg⟩
      · cases hq
    have hputs : ∀ {xs : List C} {rs : List RC} {q : List RC × List Nat} {O O1 : List (Nat × Ob)}, mCs σ.objs xs = some q → (∀ id o, get O id = some o → id < σ.next) → pCs O xs rs = some O1 → ∀ id o, get O1 id = some o → id < σ.next := by
      intro xs
      induction xs with
      | nil =>
        intro rs q O O1 _ hO hp
        cases rs with
        | nil => simp only [pCs, Option.some.injEq] at hp; subst hp; exact hO
        | cons r rs => simp [pCs] at hp
      | cons x xs ih =>
        intro rs q O O1 hq hO hp
        simp only [mCs] at hq
        split at hq
        · rename_i r1 i1 rs1 is1 e1 e2
          cases rs with
          | nil => simp [pCs] at hp
          | cons r rs =>
            simp only [pCs] at hp
            split at hp
            · rename_i O2 ep
              exact ih e2 (hput hO (href e1) ep) hp
            · cases hp
        · cases hq
    cases av with
    | c x =>
      simp only [mAV] at em
      split at em
      · rename_i r1 i1 e1
        cases m' with
        | one r' => exact hput hw (href e1) eO
        | agg rs => simp [pAV] at eO
      · cases em
    | agg xs =>
      simp only [mAV] at em
      split at em
      · rename_i r1 i1 e1
        cases m' with
        | one r' => simp [pAV] at eO
        | agg rs => exact hputs e1 hw eO
      · cases em
    | _ => simp [mAV] at em
  refine ⟨_, _, h, rfl, fun id o ho => hO' id o (get_filtD ho).2.1, fun k u hk => (get_filtD hk).2, ?_⟩
  intro w0 G w a Kc Q hM hops hK
  obtain ⟨h1, _⟩ := hops f (by simp [Op.operands, Call.operands]) _ ef
  have hx := hops x (by simp [Op.operands, Call.operands]) _ eav
  obtain ⟨hm, hl⟩ := mAV_rep hM em hx
  have hargs := argVs_sound hM eas (vals_rep (O := σ.objs) (G := G) (w := w) (a := a) eavs (fun z hz => hops z (by simp only [Op.operands, Call.operands]; simp [hz])))
  have hnF := flatΦ_nodup hM hids hl
  have hc := run_call (P := P) (dst := dst) (type := type) (pos := pos) (after := after) (guard := guard) hent (fo := f) (args := ⟨x :: rest⟩) (argTypes := argTypes) (a := a) (caps := []) (by simpa using h1) w
  unfold Oper.wp
  rw [hc]
  show Calls P fid _ w _
  rw [List.append_nil]
  refine Calls.mono (hrun w (a.eval x) (rest.map a.eval) _ hm hnF (fun b hb => ?_) hargs) ?_
  · obtain ⟨i, hi, hbi⟩ := mem_flatΦ hb
    exact (hM.lo i (hl i hi) b hbi).2
  · rintro e w' ⟨u, F', rfl, hu, hm', hF', hFc, hbel⟩
    obtain ⟨l, hB⟩ := pAV_back em hids hx eO hm'
    obtain ⟨hM', hsafe⟩ := hB.mem hM hids hl hF' hFc hbel
    exact hK _ u w' hM' hsafe (by simp only [AV.rep]; exact ⟨[], hu, fun _ _ b hb => by simp at hb⟩) (fun j hj => hj)
end

/-! ### A nested part, written in place: load it, call -/
def toT : RC → T
  | .s y => y
  | .l _ rows => .lst rows
  | .w _ rows => .lst rows
def wid : RC → Prop
  | .s y => isScal y = true
  | .w sz rows => ∀ r ∈ rows, r.length = sz
  | .l _ _ => False
def wids : List RC → Prop
  | [] => True
  | r :: rs => wid r ∧ wids rs
def mT : RV → List T
  | .one r => [toT r]
  | .agg rs => rs.map toT
def mW : RV → Prop
  | .one r => wid r
  | .agg rs => wids rs
def mAgg : RV → Bool
  | .one _ => false
  | .agg _ => true

structure Fuse where
  t : Nat
  x : Operand
  d1 : Nat
  y : Operand
  d2 : Nat
  f : FuncId
  d3 : Option Nat
def notTmp (k : Nat) : Operand → Bool
  | .tmp j => !Nat.beq j k
  | _ => true
def fuseOk (nt d1 d2 a1 a2 : Nat) (y : Operand) (d3 : Option Nat) : Bool :=
  (Nat.beq a1 d1 && Nat.beq a2 d2) && (!Nat.beq d2 d1 && notTmp d1 y) && (Nat.blt d1 nt && Nat.blt d2 nt && (match d3 with | some d => Nat.blt d nt | none => true))
def fuse (nt : Nat) : Oper → List Oper → Option Fuse
  | ⟨some d1, .load t x, _, _, _, none⟩, ⟨some d2, .move y, _, _, _, none⟩ :: ⟨d3, .call { callee := .value (.func f), args := ⟨[.tmp a1, .tmp a2]⟩, argTypes := _ }, _, _, _, none⟩ :: _ =>
    match fuseOk nt d1 d2 a1 a2 y d3 with | true => some ⟨t, x, d1, y, d2, f, d3⟩ | false => none
  | _, _ => none

def evF (P : Program) (E : Nat → Option TI) (q : Fuse) (K : St → Prop) (σ : St) : Prop :=
  need (E q.t) fun ti => need (val σ.env q.x) fun
  | .iptr id sz i off => need (get σ.objs id) fun
    | .row true app sz' rows => sz = sz' ∧ ∃ cs, rows[i]? = some cs ∧ need (val σ.env q.y) fun ay => need (argV σ.objs ay) fun va =>
        ∃ m m' y, ((mT m = (cs.drop off).take ti.size ∧ (mT m).length = ti.size) ∧ (mAgg m = ti.agg ∧ mAgg m' = ti.agg) ∧ mW m) ∧ MutAt P q.f m m' [va] y ∧
          K (St.put ⟨filtD safeAV [q.d1, q.d2] σ.env, filtD safeOb [] (Vm.put σ.objs id (.row true app sz (rows.set i (cs.take off ++ mT m' ++ cs.drop (off + ti.size))))), σ.next⟩ q.d3 (.c (.t y)))
    | _ => False
  | _ => False

section
variable {w : World}
theorem cell_mrep {r : RC} {v : Value} {F : List Nat} (h : (toT r).rep w v F) (hw : wid r) (hF : ∀ b ∈ F, ∃ arr e, w.heap[b]? = some (.cells arr e (0, 0))) : r.mrep w v F := by
  cases r with
  | s y =>
    have := scal_none hw h
    subst this
    exact ⟨⟨hw, h⟩, rfl⟩
  | l sz rows => exact hw.elim
  | w sz rows =>
    simp only [toT, T.rep] at h
    obtain ⟨A, c, h1, h2, h3⟩ := h
    rcases h3 with ⟨rfl, rfl⟩ | ⟨ad, css, F', sz', hne, rfl, hlt, rfl, hr, hg⟩
    · exact ⟨[], [], by simp [repRows], by simp, ⟨A, c, h1, h2, fun h => absurd h (by simp)⟩, .inr ⟨rfl, rfl⟩⟩
    · have hl := repRows_row_len hr hw
      have hpos := List.length_pos_iff.2 hne
      refine ⟨css, F', hr, hl, ⟨_, c, h1, h2, fun _ => ⟨ad, rfl, hF _ (by simp), fun i cs hi j u hu => ?_⟩⟩, .inl ?_⟩
      · have := hg i cs hi
        have e : sz' = sz := by rw [← this.1]; exact hl cs (List.mem_of_getElem? hi)
        rw [← e]
        exact this.2 j u hu
      · rw [h1]
        cases c with
        | zero => omega
        | succ c => rfl
theorem cells_mrep : ∀ {rs : List RC} {vs : List Value} {F : List Nat}, repCells w (rs.map toT) vs F → wids rs → (∀ b ∈ F, ∃ arr e, w.heap[b]? = some (.cells arr e (0, 0))) → repMCs w rs vs F
  | [], vs, F, h, _, _ => by simp only [List.map_nil, repCells] at h; exact h
  | r :: rs, vs, F, h, hw, hF => by
    simp only [List.map_cons, repCells] at h
    obtain ⟨v, cs', F1, F2, h1, rfl, h3, h4⟩ := h
    exact ⟨v, cs', F1, F2, h1, rfl, cell_mrep h3 hw.1 (fun b hb => hF b (by simp [hb])), cells_mrep h4 hw.2 (fun b hb => hF b (by simp [hb]))⟩
theorem mrep_cell {r : RC} {v : Value} {F : List Nat} (h : r.mrep w v F) : ∃ F', (toT r).rep w v F' ∧ F'.Sublist F := by
  cases r with
  | s y => obtain ⟨⟨_, h1⟩, rfl⟩ := h; exact ⟨[], h1, List.Sublist.refl _⟩
  | l sz rows => exact h.elim
  | w sz rows =>
    obtain ⟨css, F', h1, h2, h3, h4⟩ := h
    obtain ⟨F0, h5, h6⟩ := h3.rep h1 h2
    refine ⟨F0, h5, ?_⟩
    rcases h4 with h4 | ⟨rfl, h4⟩
    · rcases h6 with h6 | h6
      · rw [h4, h6]; exact List.Sublist.refl _
      · rw [h6]; exact List.nil_sublist _
    · simp only [T.rep] at h5
      obtain ⟨_, _, _, _, ⟨_, h9⟩ | ⟨_, _, _, _, h9, _⟩⟩ := h5
      · rw [h9]; exact List.nil_sublist _
      · exact absurd rfl h9
theorem mrep_cells : ∀ {rs : List RC} {vs : List Value} {F : List Nat}, repMCs w rs vs F → ∃ F', repCells w (rs.map toT) vs F' ∧ F'.Sublist F
  | [], vs, F, h => ⟨[], by simp only [List.map_nil, repCells]; exact ⟨h.1, trivial⟩, List.nil_sublist _⟩
  | r :: rs, vs, F, ⟨v, vs', F1, F2, h1, h2, h3, h4⟩ => by
    subst h1 h2
    obtain ⟨F1', a1, a2⟩ := mrep_cell h3
    obtain ⟨F2', b1, b2⟩ := mrep_cells h4
    exact ⟨F1' ++ F2', by simp only [List.map_cons, repCells]; exact ⟨v, vs', F1', F2', rfl, rfl, a1, b1⟩, a2.append b2⟩

theorem cut3 {α : Type} (xs : List α) (off len : Nat) : xs = xs.take off ++ (xs.drop off).take len ++ xs.drop (off + len) := by
  rw [List.append_assoc, ← List.drop_drop, List.take_append_drop, List.take_append_drop]
end
end Go.Vm

namespace Go.Vm
open Go.RowKit

/-- Arguments whose memory has not the block 'g'. -/
def repVsG (w : World) (g : Nat) : List V → List Value → Prop
  | [], vs => vs = []
  | x :: xs, vs => ∃ v vs' F, vs = v :: vs' ∧ (x.rep w v F ∧ g ∉ F) ∧ repVsG w g xs vs'

/-- THE CONTRACT: called with a pointer to a box that reads as 'cs' and with 'as', the function leaves the box reading as 'cs'' and returns 'rs' in new memory; no other block has turned. -/
def CurAt (P : Program) (f : FuncId) (cs cs' : List T) (as : List V) (rs : List RV) : Prop :=
  Enter P f ∧ ∀ (w : World) (g : Nat) (us : List Value) (e : TypeId) (F : List Nat) (vs : List Value), w.heap[g]? = some (.cells us.toArray e (0, 0)) → repCells w cs us F → g ∉ F → repVsG w g as vs →
    Calls P f (.pointer (some ⟨g, 0, none⟩) :: vs).toArray w fun ex w' => ∃ out F' us' Fc v, ex = .returned v ∧ retOf out v ∧ repRVs w' rs out F' ∧ F'.Nodup ∧
      (∀ b ∈ F', w.heap.size ≤ b ∧ ∃ arr e, w'.heap[b]? = some (.cells arr e (0, 0))) ∧ (∃ e', w'.heap[g]? = some (.cells us'.toArray e' (0, 0))) ∧ repCells w' cs' us' Fc ∧ (∀ b ∈ Fc, b ∈ F) ∧ BelowM [g] w w'

def ancC : T → C
  | .int k n => .t (.int k n)
  | .bool b => .t (.bool b)
  | .str s => .t (.str s)
  | x => .anc x
theorem ancC_rep {O : List (Nat × Ob)} {G : Gh} {w : World} {x : T} {v : Value} {F : List Nat} (h : x.rep w v F) (him : Imm O G F) (hlt : ∀ b ∈ F, G.b b) : (ancC x).rep O G w v := by
  cases x with
  | int k n => exact ⟨F, h, him⟩
  | bool b => exact ⟨F, h, him⟩
  | str s => exact ⟨F, h, him⟩
  | _ => exact ⟨F, h, him, hlt⟩
theorem ancCs_rep {O : List (Nat × Ob)} {G : Gh} {w : World} : ∀ {xs : List T} {vs : List Value} {F : List Nat}, repCells w xs vs F → Imm O G F → (∀ b ∈ F, G.b b) → repCs O G w (xs.map ancC) vs
  | [], vs, F, h, _, _ => by simp only [repCells] at h; exact h.1
  | x :: xs, vs, F, h, him, hlt => by
    simp only [repCells] at h
    obtain ⟨v, cs', F1, F2, h1, rfl, h3, h4⟩ := h
    exact ⟨v, cs', h1, ancC_rep h3 (him.sub (by simp +contextual)) (fun b hb => hlt b (by simp [hb])), ancCs_rep h4 (him.sub (by simp +contextual)) (fun b hb => hlt b (by simp [hb]))⟩

theorem tCs_rep {O : List (Nat × Ob)} {G : Gh} {w : World} : ∀ {xs : List T} {vs : List Value} {F : List Nat}, repCells w xs vs F → Imm O G F → repCs O G w (xs.map .t) vs
  | [], vs, F, h, _ => by simp only [repCells] at h; exact h.1
  | x :: xs, vs, F, h, him => by
    simp only [repCells] at h
    obtain ⟨v, cs', F1, F2, h1, rfl, h3, h4⟩ := h
    exact ⟨v, cs', h1, ⟨F1, h3, him.sub (by simp +contextual)⟩, tCs_rep h4 (him.sub (by simp +contextual))⟩

/-! ### The call -/
def cellsT : List C → Option (List T)
  | [] => some []
  | .t x :: r => bif isScal x then match cellsT r with | some ys => some (x :: ys) | none => none else none
  | .anc x :: r => match cellsT r with | some ys => some (x :: ys) | none => none
  | _ => none
def argT (O : List (Nat × Ob)) : C → Option T
  | .nil => some (.lst [])
  | .nil0 => some (.lst [])
  | .anc x => some x
  | .t x => some x
  | .ref id => match get O id with
    | some (.row _ _ _ rows) => some (.lst rows)
    | _ => none
  | _ => none
def argW (O : List (Nat × Ob)) : AV → Option V
  | .c x => match argT O x with | some y => some (.one y) | none => none
  | .agg xs => match mapO (argT O) xs with | some ys => some (.agg ys) | none => none
  | _ => none

section
variable {P : Program} {O : List (Nat × Ob)} {G : Gh} {w : World} {w0 : Base}

theorem cellsT_rep : ∀ {ds : List C} {cs : List T} {us : List Value}, cellsT ds = some cs → repCs O G w ds us → ∃ F, repCells w cs us F ∧ Imm O G F ∧ ∀ b ∈ F, G.b b
  | [], cs, us, h, hr => by
    simp only [cellsT, Option.some.injEq] at h
    subst h
    exact ⟨[], by simp only [repCells]; exact ⟨hr, trivial⟩, fun _ _ b hb => by simp at hb, by simp⟩
  | .t x :: r, cs, _, h, ⟨v, vs', e1, ⟨F, h3, h4⟩, h5⟩ => by
    simp only [cellsT] at h
    cases hs : isScal x with
    | false => simp [hs] at h
    | true =>
      simp only [hs, cond_true] at h
      split at h
      · rename_i ys hy
        injection h with h
        subst h e1
        have := scal_none hs h3
        subst this
        obtain ⟨F2, h6, h7, h8⟩ := cellsT_rep hy h5
        exact ⟨F2, by simp only [repCells]; exact ⟨_, _, [], F2, rfl, rfl, h3, h6⟩, h7, h8⟩
      · cases h
  | .anc x :: r, cs, _, h, ⟨v, vs', e1, ⟨F, h3, h4, h9⟩, h5⟩ => by
    simp only [cellsT] at h
    split at h
    · rename_i ys hy
      injection h with h
      subst h e1
      obtain ⟨F2, h6, h7, h8⟩ := cellsT_rep hy h5
      exact ⟨F ++ F2, by simp only [repCells]; exact ⟨_, _, F, F2, rfl, rfl, h3, h6⟩, fun id hl b hb => (List.mem_append.1 hb).elim (h4 id hl b) (h7 id hl b), fun b hb => (List.mem_append.1 hb).elim (h9 b) (h8 b)⟩
    · cases h
  | .nil :: _, _, _, h, _ => by cases h
  | .nil0 :: _, _, _, h, _ => by cases h
  | .ref _ :: _, _, _, h, _ => by cases h
  | .fn _ _ :: _, _, _, h, _ => by cases h
  | .view _ _ _ _ :: _, _, _, h, _ => by cases h

theorem argT_sound (hM : Mem w0 O G w) {id : Nat} {ds : List C} (hA : G.A id) (hg : get O id = some (.box ds)) {x : C} {y : T} {v : Value} (h : argT O x = some y) (hr : x.rep O G w v) : ∃ F, y.rep w v F ∧ ∀ b ∈ F, b ∉ G.h id := by
  have hlv : Lv O G id := ⟨hA, _, hg⟩
  cases x with
  | nil =>
    simp only [argT, Option.some.injEq] at h
    subst h
    have hr' : v = .slice none 0 0 := hr
    subst hr'
    exact ⟨[], by simp only [T.rep]; exact ⟨none, 0, rfl, Nat.le_refl _, .inl ⟨trivial, trivial⟩⟩, by simp⟩
  | nil0 =>
    simp only [argT, Option.some.injEq] at h
    subst h
    obtain ⟨A, hr⟩ := hr
    subst hr
    exact ⟨[], by simp only [T.rep]; exact ⟨A, 0, rfl, Nat.le_refl _, .inl ⟨trivial, trivial⟩⟩, by simp⟩
  | t x =>
    simp only [argT, Option.some.injEq] at h
    subst h
    obtain ⟨F, h1, h2⟩ := hr
    exact ⟨F, h1, fun b hb => h2 id hlv b hb⟩
  | anc x =>
    simp only [argT, Option.some.injEq] at h
    subst h
    obtain ⟨F, h1, h2, _⟩ := hr
    exact ⟨F, h1, fun b hb => h2 id hlv b hb⟩
  | ref k =>
    simp only [argT] at h
    split at h
    · rename_i own app sz rows hk
      injection h with h
      subst h
      obtain ⟨h1, h2, _⟩ := hr
      subst h2
      have hlk : Lv O G k := ⟨h1, _, hk⟩
      have hne : k ≠ id := fun e => by subst e; rw [hk] at hg; cases hg
      cases rows with
      | nil =>
        obtain ⟨css, F', h3, h4, h5, h6⟩ := hM.row h1 hk
        obtain ⟨A, c, h7, h8, _⟩ := h5
        exact ⟨[], by simp only [T.rep]; exact ⟨A, c, h7, h8, .inl ⟨trivial, trivial⟩⟩, by simp⟩
      | cons r rs =>
        obtain ⟨css, F', h3, h4, h5, h6⟩ := hM.row h1 hk
        obtain ⟨F, h7, h8⟩ := h5.rep h3 h4
        refine ⟨F, h7, fun b hb hbi => ?_⟩
        rcases h8 with h8 | h8
        · rw [h8] at hb
          rcases List.mem_append.1 hb with hb | hb
          · have hhk : G.h k = hd (G.φ k) := by
              obtain ⟨css', F2, q1, q2, q3, q4⟩ := hM.obs k _ h1 hk
              cases app with
              | true => simp only [if_true] at q3; exact q3.2
              | false =>
                simp only [Bool.false_eq_true, if_false] at q3
                rcases q3.2 with q5 | ⟨q5, _⟩
                · exact q5
                · cases q5
            rw [← hhk] at hb
            exact hM.disj k id hlk hlv hne b (hM.hds k hlk b hb) (hM.hds id hlv b hbi)
          · exact h6 id hlv b hb hbi
        · rw [h8] at hb; cases hb
    · cases h
  | fn f ids => simp [argT] at h
  | view id sz lo hi => simp [argT] at h
theorem argTs_sound (hM : Mem w0 O G w) {id : Nat} {ds : List C} (hA : G.A id) (hg : get O id = some (.box ds)) : ∀ {xs : List C} {ys : List T} {vs : List Value}, mapO (argT O) xs = some ys → repCs O G w xs vs → ∃ F, repCells w ys vs F ∧ ∀ b ∈ F, b ∉ G.h id
  | [], ys, vs, h, hr => by simp only [mapO, Option.some.injEq] at h; subst h; exact ⟨[], by simp only [repCells]; exact ⟨hr, trivial⟩, by simp⟩
  | x :: xs, ys, vs, h, ⟨v, vs', h1, h2, h3⟩ => by
    simp only [mapO] at h
    split at h
    · rename_i y ys' e1 e2
      injection h with h
      subst h h1
      obtain ⟨F1, h4, n1⟩ := argT_sound hM hA hg e1 h2
      obtain ⟨F2, h5, n2⟩ := argTs_sound hM hA hg e2 h3
      exact ⟨F1 ++ F2, by simp only [repCells]; exact ⟨v, vs', F1, F2, rfl, rfl, h4, h5⟩, fun b hb => (List.mem_append.1 hb).elim (n1 b) (n2 b)⟩
    · cases h
theorem argWs_sound (hM : Mem w0 O G w) {id g : Nat} {ds : List C} (hA : G.A id) (hg : get O id = some (.box ds)) (hh : g ∈ G.h id) : ∀ {xs : List AV} {ys : List V} {vs : List Value}, mapO (argW O) xs = some ys → repAVs O G w xs vs → repVsG w g ys vs
  | [], ys, vs, h, hr => by simp only [mapO, Option.some.injEq] at h; subst h; simp only [repAVs] at hr; exact hr
  | x :: xs, ys, vs, h, hr => by
    simp only [repAVs] at hr
    obtain ⟨v, vs', h1, h2, h3⟩ := hr
    simp only [mapO] at h
    split at h
    · rename_i y ys' e1 e2
      injection h with h
      subst h h1
      have hrest := argWs_sound hM hA hg hh e2 h3
      cases x with
      | c x =>
        simp only [argW] at e1
        split at e1
        · rename_i z e3
          injection e1 with e1
          subst e1
          simp only [AV.rep] at h2
          obtain ⟨F, h4, n⟩ := argT_sound hM hA hg e3 h2
          exact ⟨v, vs', F, rfl, ⟨h4, fun hb => n g hb hh⟩, hrest⟩
        · cases e1
      | agg xs =>
        simp only [argW] at e1
        split at e1
        · rename_i z e3
          injection e1 with e1
          subst e1
          simp only [AV.rep] at h2
          obtain ⟨us, h5, h6⟩ := h2
          obtain ⟨F, h4, n⟩ := argTs_sound hM hA hg e3 h6
          exact ⟨v, vs', F, rfl, ⟨⟨us, h5, h4⟩, fun hb => n g hb hh⟩, hrest⟩
        · cases e1
      | _ => simp [argW] at e1
    · cases h

/-- What a call with a pointer to a box does to a state: the box shows other cells, new objects are laid. -/
theorem cur_step {O' : List (Nat × Ob)} {w' : World} (hM : Mem w0 O G w) {id : Nat} {ds : List C} (hA : G.A id) (hg : get O id = some (.box ds)) {g : Nat} {us us' : List Value} {e e' : TypeId} (b1 : G.φ id = .pointer (some ⟨g, 0, none⟩)) (b2 : w.heap[g]? = some (.cells (List.toArray us) e (0, 0)))
    (b4 : G.Φ id = [g]) (b5 : G.h id = [g]) {F F' Fc : List Nat} {cs cs' : List T} (hF : repCells w cs us F) (himm : Imm O G F) (hold0 : ∀ b ∈ F, G.b b) (hnd0 : F'.Nodup) (hfresh : ∀ b ∈ F', w.heap.size ≤ b ∧ ∃ arr e, w'.heap[b]? = some (.cells arr e (0, 0))) (hheap' : w'.heap[g]? = some (.cells us'.toArray e' (0, 0)))
    (hcs' : repCells w' cs' us' Fc) (hFc : ∀ b ∈ Fc, b ∈ F) (hbel : BelowM [g] w w') {σ1 σ2 : St} {l : List (Value × List Nat)} {R : List (Nat × Ob) → Gh → Prop} (imp : Imp w' σ1 σ2 l F' R)
    (hlt : ∀ j, σ1.next ≤ j → j < σ1.next + l.length → ¬ G.A j) (hid' : get O' id = some (.box (cs'.map ancC))) (hold : ∀ j, G.A j → j ≠ id → get O' j = get O j) (hnew : ∀ k, k < l.length → get O' (σ1.next + k) = get σ2.objs (σ1.next + k)) :
    Mem w0 O' (G.addL σ1.next l) w' ∧ Pres O G w O' (G.addL σ1.next l) w' := by
  have hlv : Lv O G id := ⟨hA, _, hg⟩
  have hgh : g ∈ G.h id := by rw [b5]; simp
  have hFlt := repCells_lt cs us F hF
  have hgs : g < w.heap.size := (Array.getElem?_eq_some_iff.1 b2).1
  have hflat := imp.flat
  have hnd := nodup_flat_get (l := l.map (·.2)) (by rw [hflat]; exact hnd0)
  have hin : ∀ p ∈ l, ∀ b ∈ p.2, b ∈ F' := fun p hp b hb => by rw [← hflat]; exact List.mem_flatten.2 ⟨p.2, List.mem_map.2 ⟨p, hp, rfl⟩, hb⟩
  have hX : ∀ j, (σ1.next ≤ j ∧ j < σ1.next + l.length) → ∃ k, ∃ hk : k < l.length, j = σ1.next + k := fun j h => ⟨j - σ1.next, by omega, by omega⟩
  have hid := Gh.addL_old (l := l) hlt hA
  exact Mem.step (G' := G.addL σ1.next l) (O' := O') (w' := w') hM (fun j => Lv O G j ∧ j ≠ id) (fun j => j = id ∨ (σ1.next ≤ j ∧ j < σ1.next + l.length))
    (fun j h => ⟨.inl h, (Gh.addL_old hlt h).1⟩) ⟨rfl, rfl⟩ (fun j h => ⟨h.1, hold j h.1.1 h.2, (Gh.addL_old hlt h.1.1).2⟩)
    (fun j h => by
      by_cases e : j = id
      · exact .inr (.inl e)
      · rcases h.1 with h1 | h1
        · obtain ⟨o, ho⟩ := h.2
          rw [hold j h1 e] at ho
          exact .inl ⟨⟨h1, o, ho⟩, e⟩
        · exact .inr (.inr h1))
    hbel.os hbel.tape hbel.output hbel.size
    (fun b hb hn => hbel.block b hb (fun hbg => by
      have : b = g := by simpa using hbg
      subst this
      exact hn id hlv (fun h => h.2 rfl) hgh))
    (fun j hj => by
      rcases hj with rfl | hj
      · rw [hid.2.1, b4]; simp
      · obtain ⟨k, hk, rfl⟩ := hX j hj
        rw [(Gh.addL_new hk).2.1]
        have h := hnd.1 k (by simpa using hk)
        rwa [List.getElem_map] at h)
    (fun i j hi hj hne b hbi hbj => by
      have new : ∀ j, (σ1.next ≤ j ∧ j < σ1.next + l.length) → b ∈ (G.addL σ1.next l).Φ j → w.heap.size ≤ b := fun j hj hb => by
        obtain ⟨k, hk, rfl⟩ := hX j hj
        rw [(Gh.addL_new hk).2.1] at hb
        exact (hfresh b (hin _ (List.getElem_mem hk) b hb)).1
      have old : b ∈ (G.addL σ1.next l).Φ id → b = g := fun hb => by rw [hid.2.1, b4] at hb; simpa using hb
      rcases hi with rfl | hi <;> rcases hj with rfl | hj
      · exact hne rfl
      · have h1 := old hbi; have h2 := new j hj hbj; omega
      · have h1 := old hbj; have h2 := new i hi hbi; omega
      · obtain ⟨k, hk, rfl⟩ := hX i hi
        obtain ⟨m, hm, rfl⟩ := hX j hj
        rw [(Gh.addL_new hk).2.1] at hbi
        rw [(Gh.addL_new hm).2.1] at hbj
        have := hnd.2 k m (by simpa using hk) (by simpa using hm) (by omega) b
        rw [List.getElem_map, List.getElem_map] at this
        exact this hbi hbj)
    (fun j hj b hb => by
      rcases hj with rfl | hj
      · rw [hid.2.1] at hb
        refine ⟨.inr ⟨j, hlv, fun h => h.2 rfl, hb⟩, ?_⟩
        rw [b4] at hb
        have : b = g := by simpa using hb
        subst this
        exact ⟨_, _, hheap'⟩
      · obtain ⟨k, hk, rfl⟩ := hX j hj
        rw [(Gh.addL_new hk).2.1] at hb
        obtain ⟨h1, h2⟩ := hfresh b (hin _ (List.getElem_mem hk) b hb)
        exact ⟨.inl h1, h2⟩)
    (fun j hj b hb => by
      rcases hj with rfl | hj
      · rw [hid.2.2] at hb
        exact ⟨by rw [hid.2.1]; exact hM.hds j hlv b hb, .inr ⟨j, hlv, hb⟩⟩
      · obtain ⟨k, hk, rfl⟩ := hX j hj
        rw [(Gh.addL_new hk).2.2] at hb
        rw [(Gh.addL_new hk).2.1]
        have h1 := imp.hds _ (List.getElem_mem hk) b hb
        exact ⟨h1, .inl (hfresh b (hin _ (List.getElem_mem hk) b h1)).1⟩)
    (fun j o hj hAj hgo p => by
      rcases hj with rfl | hj
      · rw [hid'] at hgo
        injection hgo with hgo
        subst hgo
        exact ⟨g, us', e', hid.1.trans b1, hheap', ancCs_rep hcs' ((himm.sub hFc).pres (fun b hb => hFlt b (hFc b hb)) p) (fun b hb => hold0 b (hFc b hb)), hid.2.1.trans b4, hid.2.2.trans b5⟩
      · obtain ⟨k, hk, rfl⟩ := hX j hj
        have hn := Gh.addL_new (G := G) (n := σ1.next) hk
        exact imp.obs k hk o (by rw [← hnew k hk]; exact hgo) _ _ hn.1 hn.2)

/-- The same arguments read alike where the box shows other cells. -/
theorem argW_mono {O' : List (Nat × Ob)} {id : Nat} {ds : List C} (hg : get O id = some (.box ds)) (hsub : ∀ j ob, j ≠ id → get O j = some ob → get O' j = some ob) : ∀ (xs : List AV) {ys : List V}, mapO (argW O) xs = some ys → mapO (argW O') xs = some ys := by
  have m1 : ∀ (x : C) {y : T}, argT O x = some y → argT O' x = some y := by
    intro x y h
    cases x with
    | ref k =>
      simp only [argT] at h ⊢
      split at h
      · rename_i own app sz rows hk
        have hne : k ≠ id := fun e => by subst e; rw [hk] at hg; cases hg
        rw [hsub k _ hne hk]
        exact h
      · cases h
    | _ => exact h
  have m2 : ∀ (xs : List C) {ys : List T}, mapO (argT O) xs = some ys → mapO (argT O') xs = some ys := by
    intro xs
    induction xs with
    | nil => intro ys h; exact h
    | cons x xs ih =>
      intro ys h
      simp only [mapO] at h ⊢
      split at h
      · rename_i y ys' e1 e2
        rw [m1 x e1, ih e2]
        exact h
      · cases h
  intro xs
  induction xs with
  | nil => intro ys h; exact h
  | cons x xs ih =>
    intro ys h
    simp only [mapO] at h ⊢
    split at h
    · rename_i y ys' e1 e2
      have e1' : argW O' x = some y := by
        cases x with
        | c x =>
          simp only [argW] at e1 ⊢
          split at e1
          · rename_i z e3
            rw [m1 x e3]
            exact e1
          · cases e1
        | agg xs =>
          simp only [argW] at e1 ⊢
          split at e1
          · rename_i z e3
            rw [m2 xs e3]
            exact e1
          · cases e1
        | _ => simp [argW] at e1
      rw [e1', ih e2]
      exact h
    · cases h
end
end Go.Vm

namespace Go.Vm
open Go.RowKit

inductive Ex where
  | normal
  | exit (id : Nat)
  | ret

/-- A function called by walking into it: whatever it does to the objects of the caller. -/
def InAt (P : Program) (f : FuncId) (avs : List AV) (σ : St) (K : AV → St → Prop) : Prop :=
  Enter P f ∧ ∀ (w0 : Base) (G : Gh) (w : World) (vs : List Value) (R : Ending → World → Prop), Mem w0 σ.objs G w → σ.wf → repAVs σ.objs G w avs vs → (∀ j, G.A j → j < σ.next) →
    (∀ av objs' next' G' v w', K av ⟨σ.env, objs', next'⟩ → St.wf ⟨σ.env, objs', next'⟩ → Mem w0 objs' G' w' → Pres σ.objs G w objs' G' w' → av.rep objs' G' w' v → (∀ j, G'.A j → j < next') → R (.returned v) w') →
    Calls P f vs.toArray w R

def opI (P : Program) (vl : Operand → Option AV) (f : Operand) (args : Array Operand) (σ : St) (K : AV → St → Prop) : Prop :=
  need (vl f) fun
  | .c (.fn fid []) => need (vals vl args.toList) fun avs => InAt P fid avs σ K
  | _ => False

def isFrm : AV → Bool
  | .frm .. => true
  | _ => false

/-- A function called by walking into it, whatever it does to the slots and the objects of the caller. -/
def JAt (P : Program) (f : FuncId) (avs : List AV) (σ : St) (K : AV → St → Prop) : Prop :=
  Enter P f ∧ ∀ (w0 : Base) (G : Gh) (w : World) (vs : List Value) (tv : Array Value) (R : Ending → World → Prop), Mem w0 σ.objs G w → σ.wf → repAVs σ.objs G w avs vs → (∀ j, G.A j → j < σ.next) →
    (∀ k v, get σ.env k = some v → (k < tv.size ∨ isFrm v = true) ∧ v.rep σ.objs G w (tv.getD k undef)) →
    (∀ av σ' G' v w', K av σ' → σ'.wf → Mem w0 σ'.objs G' w' → (∀ k u, get σ'.env k = some u → k < tv.size ∧ u.rep σ'.objs G' w' (tv.getD k undef)) → av.rep σ'.objs G' w' v → (∀ j, G'.A j → j < σ'.next) → R (.returned v) w') →
    Calls P f vs.toArray w R

def opJ (P : Program) (vl : Operand → Option AV) (f : Operand) (args : Array Operand) (σ : St) (K : AV → St → Prop) : Prop :=
  need (vl f) fun
  | .c (.fn fid []) => need (vals vl args.toList) fun avs => JAt P fid avs σ K
  | _ => False

def evOp (P : Program) (E : Nat → Option TI) (inl : Bool) (op : Op) (σ : St) (K : AV → St → Prop) : Prop :=
  match op with
  | .store t x v => opE E (val σ.env) (.store t x v) σ K
  | .alloc t => opB P E (val σ.env) (.alloc t) σ K
  | .box t x => match inl with
    | true => opB P E (valR σ.env) (.box t x) σ K
    | false => opB P E (val σ.env) (.box t x) σ K
  | .build t ps => match inl with
    | true => opB P E (valR σ.env) (.build t ps) σ K
    | false => opB P E (val σ.env) (.build t ps) σ K
  | .move x => match inl with
    | true => opA E (valR σ.env) (.move x) (fun v => K v σ)
    | false => opA E (val σ.env) (.move x) (fun v => K v σ)
  | .buildSlice t n ps => opB P E (val σ.env) (.buildSlice t n ps) σ K
  | .load t x => opB P E (val σ.env) (.load t x) σ K
  | .makeSlice t l c => opB P E (val σ.env) (.makeSlice t l c) σ K
  | .indexAddr t x i => opB P E (val σ.env) (.indexAddr t x i) σ K
  | .slice t x l h m => opB P E (val σ.env) (.slice t x l h m) σ K
  | .convert s d x => opB P E (val σ.env) (.convert s d x) σ K
  | .call c => match c.callee with
    | .builtin .append => opE E (val σ.env) (.call c) σ K
    | .builtin .len => opB P E (val σ.env) (.call c) σ K
    | .value f => opB P E (val σ.env) (.call c) σ K ∨ (inl = true ∧ (opI P (valR σ.env) f c.args σ K ∨ opM P (val σ.env) f c.args σ K ∨ opJ P (val σ.env) f c.args σ K))
    | _ => opA E (val σ.env) (.call c) (fun v => K v σ)
  | op => opA E (val σ.env) op (fun v => K v σ)

/-! ### Strict steps: the state is laid open at every operation, so that terms stay small -/
def forceN : Nat → (Nat → Prop) → Prop
  | 0, K => K 0
  | m + 1, K => forceN m fun k => K (k + 1)
def forceB (b : Bool) (K : Bool → Prop) : Prop :=
  match b with
  | true => K true
  | false => K false
def forceE (e : List (Nat × AV)) (K : List (Nat × AV) → Prop) : Prop :=
  match e with
  | [] => K []
  | p :: r => K (p :: r)
def forceC (x : C) (K : C → Prop) : Prop :=
  match x with
  | .nil => K .nil
  | .nil0 => K .nil0
  | .anc y => K (.anc y)
  | .t y => K (.t y)
  | .ref id => forceN id fun k => K (.ref k)
  | .fn f ids => K (.fn f ids)
  | .view id sz lo hi => forceN id fun k => K (.view k sz lo hi)
def forceCs : List C → (List C → Prop) → Prop
  | [], K => K []
  | x :: xs, K => forceC x fun y => forceCs xs fun ys => K (y :: ys)
def forceV0 (v : AV) (K : AV → Prop) : Prop :=
  match v with
  | .c x => forceC x fun y => K (.c y)
  | .agg xs => forceCs xs fun ys => K (.agg ys)
  | .tup xs => K (.tup xs)
  | .ptr id off => forceN id fun k => forceN off fun o => K (.ptr k o)
  | .iptr id sz i off => forceN id fun k => forceN off fun o => K (.iptr k sz i o)
  | .sptr cells off => forceN off fun o => K (.sptr cells o)
  | .junk => K .junk
  | .nilq rows => K (.nilq rows)
  | .pin x => K (.pin x)
  | .frm ks vs => K (.frm ks vs)
  | .any => K .any
def forceVs : List AV → (List AV → Prop) → Prop
  | [], K => K []
  | x :: xs, K => forceV0 x fun y => forceVs xs fun ys => K (y :: ys)
def forceV (v : AV) (K : AV → Prop) : Prop :=
  match v with
  | .tup xs => forceVs xs fun ys => K (.tup ys)
  | v => forceV0 v K
def forceO : List (Nat × Ob) → (List (Nat × Ob) → Prop) → Prop
  | [], K => K []
  | (id, .box cs) :: r, K => forceN id fun id' => forceCs cs fun ds => forceO r fun r' => K ((id', .box ds) :: r')
  | (id, .row own app sz rows) :: r, K => forceN id fun id' => forceB own fun own' => forceB app fun app' => forceN sz fun sz' => forceO r fun r' => K ((id', .row own' app' sz' rows) :: r')
  | (id, .tmp sz rows) :: r, K => forceN id fun id' => forceN sz fun sz' => forceO r fun r' => K ((id', .tmp sz' rows) :: r')
  | (id, .vw rows) :: r, K => forceN id fun id' => forceO r fun r' => K ((id', .vw rows) :: r')
def putK (σ : St) (d : Option Nat) (v : AV) (K : St → Prop) : Prop :=
  match σ with
  | ⟨e, o, n⟩ => forceE e fun e' => forceN n fun n' => forceO o fun o' => forceV v fun v' => match d with
    | some k => K ⟨(k, v') :: e', o', n'⟩
    | none => K ⟨e', o', n'⟩

theorem forceN_eq : ∀ (n : Nat) (K : Nat → Prop), forceN n K = K n
  | 0, _ => rfl
  | m + 1, K => forceN_eq m fun k => K (k + 1)
theorem forceB_eq (b : Bool) (K : Bool → Prop) : forceB b K = K b := by cases b <;> rfl
theorem forceE_eq (e : List (Nat × AV)) (K : List (Nat × AV) → Prop) : forceE e K = K e := by cases e <;> rfl
theorem forceC_eq (x : C) (K : C → Prop) : forceC x K = K x := by cases x <;> first | rfl | (rw [forceC, forceN_eq])
theorem forceCs_eq : ∀ (xs : List C) (K : List C → Prop), forceCs xs K = K xs
  | [], K => rfl
  | x :: xs, K => by rw [forceCs, forceC_eq, forceCs_eq]
theorem forceV0_eq (v : AV) (K : AV → Prop) : forceV0 v K = K v := by
  cases v <;> first | rfl | (rw [forceV0, forceC_eq]) | (rw [forceV0, forceCs_eq]) | (rw [forceV0, forceN_eq, forceN_eq]) | (rw [forceV0, forceN_eq])
theorem forceVs_eq : ∀ (xs : List AV) (K : List AV → Prop), forceVs xs K = K xs
  | [], _ => rfl
  | x :: xs, K => by rw [forceVs, forceV0_eq, forceVs_eq]
theorem forceV_eq (v : AV) (K : AV → Prop) : forceV v K = K v := by
  cases v with
  | tup xs => exact forceVs_eq xs _
  | c x => exact forceV0_eq (.c x) K
  | agg xs => exact forceV0_eq (.agg xs) K
  | ptr a b => exact forceV0_eq (.ptr a b) K
  | iptr a b c d => exact forceV0_eq (.iptr a b c d) K
  | sptr a b => exact forceV0_eq (.sptr a b) K
  | junk => exact forceV0_eq .junk K
  | nilq a => exact forceV0_eq (.nilq a) K
  | pin a => exact forceV0_eq (.pin a) K
  | frm a b => exact forceV0_eq (.frm a b) K
  | any => exact forceV0_eq .any K
theorem forceO_eq : ∀ (o : List (Nat × Ob)) (K : List (Nat × Ob) → Prop), forceO o K = K o
  | [], K => rfl
  | (id, .box cs) :: r, K => by rw [forceO, forceN_eq, forceCs_eq, forceO_eq]
  | (id, .row own app sz rows) :: r, K => by rw [forceO, forceN_eq, forceB_eq, forceB_eq, forceN_eq, forceO_eq]
  | (id, .tmp sz rows) :: r, K => by rw [forceO, forceN_eq, forceN_eq, forceO_eq]
  | (id, .vw rows) :: r, K => by rw [forceO, forceN_eq, forceO_eq]
theorem putK_eq (σ : St) (d : Option Nat) (v : AV) (K : St → Prop) : putK σ d v K = K (σ.put d v) := by
  obtain ⟨e, o, n⟩ := σ
  cases d <;> simp only [putK, forceE_eq, forceN_eq, forceO_eq, forceV_eq, St.put]

def dstOk (nt : Nat) : Option Nat → Bool
  | some d => Nat.blt d nt
  | none => true

/-- An empty literal to which the same region appends; such an append. -/
def usedBy (t : Nat) : List Oper → Bool
  | [] => false
  | o :: r => match o.op with
    | .call c => match c.callee with
      | .builtin .append => match c.args.toList with
        | .tmp u :: _ => bif Nat.beq u t then true else usedBy t r
        | _ => usedBy t r
      | _ => usedBy t r
    | _ => usedBy t r
def builtEmpty (t : Nat) : List Oper → Bool
  | [] => false
  | o :: r => match o.op with
    | .buildSlice _ n _ => match n, o.dst with
      | 0, some u => bif Nat.beq u t then true else builtEmpty t r
      | _, _ => builtEmpty t r
    | _ => builtEmpty t r
def frO (inl : Bool) (ops : Array Oper) (o : Oper) : Bool :=
  match inl with
  | true => false
  | false => match o.op with
    | .buildSlice _ n _ => match n, o.dst with
      | 0, some t => usedBy t ops.toList
      | _, _ => false
    | .call c => match c.callee with
      | .builtin .append => match c.args.toList with
        | .tmp u :: _ => builtEmpty u ops.toList
        | _ => false
      | _ => false
    | _ => false
def evOpF (P : Program) (E : Nat → Option TI) (inl fr : Bool) (op : Op) (σ : St) (K : AV → St → Prop) : Prop :=
  match fr with
  | true => opF E (val σ.env) op σ K
  | false => evOp P E inl op σ K

/-- The operations of a region, in the order of the text. -/
def evOps (P : Program) (E : Nat → Option TI) (nt : Nat) (inl : Bool) (ops : Array Oper) : List Oper → (St → Prop) → St → Prop
  | [], K, σ => K σ
  | o :: rest, K, σ => scase (dstOk nt o.dst) (match o.guard with
    | none => evOpF P E inl (frO inl ops o) o.op σ fun v σ' => putK σ' o.dst v (evOps P E nt inl ops rest K)
    | some (j, want) => need ((ops[j]?).bind (·.dst)) fun d => match get σ.env d with
      | some (.c (.t (.bool b))) =>
        match want with
        | true => bcase b (putK σ (some d) (vbool true) fun τ => evOpF P E inl (frO inl ops o) o.op τ fun v σ' => putK σ' o.dst v (evOps P E nt inl ops rest K)) (putK σ (some d) (vbool false) fun τ => putK τ o.dst .junk (evOps P E nt inl ops rest K))
        | false => bcase b (putK σ (some d) (vbool true) fun τ => putK τ o.dst .junk (evOps P E nt inl ops rest K)) (putK σ (some d) (vbool false) fun τ => evOpF P E inl (frO inl ops o) o.op τ fun v σ' => putK σ' o.dst v (evOps P E nt inl ops rest K))
      | some .junk => putK σ o.dst .junk (evOps P E nt inl ops rest K)
      | _ => False) False

/-- A region's first load whose value a call takes that may write in place. -/
def cut (nt : Nat) : List Oper → Option (List Oper × Fuse × List Oper × List Oper)
  | [] => none
  | o :: rest => match fuse nt o rest with
    | some q => some ([], q, o :: rest.take 2, rest.drop 2)
    | none => match cut nt rest with
      | some (p, x) => some (o :: p, x)
      | none => none
/-- A region in order; a nested part may be written in place. -/
def evReg (P : Program) (E : Nat → Option TI) (nt : Nat) (ops : Array Oper) (K : St → Prop) (σ : St) : Prop :=
  match cut nt ops.toList with
  | none => evOps P E nt true ops ops.toList K σ
  | some (p, q, t, r) => evOps P E nt true ops p (fun τ => evOps P E nt true ops t (evOps P E nt true ops r K) τ ∨ evF P E q (evOps P E nt true ops r K) τ) σ

/-! ### Forgetting and renaming, for loops: σ' is σ with some of its slots and objects, these under other numbers; a nil may become an empty row -/
def renC (ρ : List (Nat × Option Nat)) : C → Option C
  | .ref id => match get ρ id with
    | some (some k) => some (.ref k)
    | some none => some .nil
    | none => none
  | .nil => some .nil
  | .t x => some (.t x)
  | .anc x => some (.anc x)
  | _ => none
def renCs (ρ : List (Nat × Option Nat)) : List C → Option (List C)
  | [] => some []
  | x :: xs => match renC ρ x, renCs ρ xs with
    | some y, some ys => some (y :: ys)
    | _, _ => none
def renAV (ρ : List (Nat × Option Nat)) : AV → Option AV
  | .c x => match renC ρ x with | some y => some (.c y) | none => none
  | .agg xs => match renCs ρ xs with | some ys => some (.agg ys) | none => none
  | .ptr id off => match get ρ id with
    | some (some k) => some (.ptr k off)
    | _ => none
  | .junk => some .junk
  | .pin (.c x) => match renC ρ x with | some y => some (.pin (.c y)) | none => none
  | .pin (.agg xs) => match renCs ρ xs with | some ys => some (.pin (.agg ys)) | none => none
  | .pin (.ptr id off) => match get ρ id with
    | some (some k) => some (.pin (.ptr k off))
    | _ => none
  | _ => none
/-- A slot as it was, or without its mark. -/
def subC (u u' : C) : Prop :=
  match u, u' with
  | .anc x, .t y => x = y
  | u, u' => u = u'
def subCs : List C → List C → Prop
  | [], [] => True
  | u :: us, v :: vs => subC u v ∧ subCs us vs
  | _, _ => False
def sub1 (u u' : AV) : Prop :=
  match u, u' with
  | .c (.anc x), .c (.t y) => x = y
  | .agg us, .agg vs => us = vs ∨ subCs us vs
  | u, u' => u = u'
/-- The slots of σ' are slots of σ. -/
def subEnv (ρ : List (Nat × Option Nat)) (old : List (Nat × AV)) : List (Nat × AV) → Prop
  | [] => True
  | (k, v) :: r => need (get old k) fun u => need (renAV ρ v) fun u' => sub1 u u' ∧ subEnv ρ old r
/-- The objects of σ' are objects of σ. -/
def subOb (ρ : List (Nat × Option Nat)) (u o : Ob) : Prop :=
  match o, u with
  | .box cs, .box us => need (renCs ρ cs) fun ds => us = ds ∨ subCs us ds
  | .row own app sz rows, .row own' app' sz' rows' => (own' = own ∧ app' = app ∧ sz' = sz) ∧ rows' = rows
  | _, _ => False
def subObjs (ρ : List (Nat × Option Nat)) (old : List (Nat × Ob)) (next : Nat) : List (Nat × Ob) → Prop
  | [] => True
  | (id, o) :: r => scase (Nat.blt id next) (need (get ρ id) fun
      | some k => need (get old k) fun u => subOb ρ u o ∧ subObjs ρ old next r
      | none => match o with
          | .row true true _ [] => subObjs ρ old next r
          | _ => False) False
def somes : List (Nat × Option Nat) → List Nat
  | [] => []
  | (_, some k) :: r => k :: somes r
  | (_, none) :: r => somes r
/-- For every slot at most once by name; every id of the new state has its place. -/
def Sub (σ σ' : St) : Prop :=
  ∃ ρ : List (Nat × Option Nat), nodupB (somes ρ) = true ∧ nodupB (ρ.map (·.1)) = true ∧ (ρ.all fun p => Nat.blt p.1 σ'.next) = true ∧
    subEnv ρ σ.env σ'.env ∧ subObjs ρ σ.objs σ'.next σ'.objs

/-! ### A region whose order is drawn: its operations may be laid in any order that the binding edges leave -/
/-- What an operation has to do with memory: nothing; it reads, or makes new; it changes. -/
def cls : Op → Nat
  | .store .. => 2
  | .alloc .. | .box .. | .build .. | .buildSlice .. | .load .. | .makeSlice .. | .indexAddr .. | .slice .. | .convert .. => 1
  | .call c => match c.callee with
    | .builtin .append => 2
    | .builtin .len => 1
    | .value _ => 1
    | _ => 0
  | _ => 0
/-- The indices that come ahead of an operation, as bits. -/
def mask (T : List Nat) : List Edge → Nat
  | [] => 0
  | e :: r => bif Region.binds .any e then (match T[e.on]? with | some x => mask T r ||| (x ||| (1 <<< e.on)) | none => mask T r) else mask T r
def masks : List Oper → List Nat → List Nat
  | [], T => T
  | o :: r, T => masks r (T ++ [mask T o.after.toList])
def clsO (ops : Array Oper) (o : Oper) : Nat := match frO false ops o with | true => 1 | false => cls o.op
def memN (d : Nat) : List Nat → Bool
  | [] => false
  | x :: r => bif Nat.beq x d then true else memN d r
def dstIn : Option Nat → List Nat → Bool
  | some d, l => memN d l
  | none, _ => false
def sameDst : Option Nat → Option Nat → Bool
  | some a, some b => Nat.beq a b
  | _, _ => false
/-- A call of a function by value. -/
def isVal : Op → Bool
  | .call c => match c.callee with
    | .value _ => true
    | _ => false
  | _ => false
def conflict (ops : Array Oper) (x y : Oper) : Bool :=
  (isVal x.op && isVal y.op) ||
  (  dstIn x.dst (y.looksAt ops) || (dstIn y.dst (x.looksAt ops) || bif Nat.beq (clsO ops x) 2 then !Nat.beq (clsO ops y) 0 else (Nat.beq (clsO ops y) 2 && !Nat.beq (clsO ops x) 0)))
/-- All pairs of which the first stands in the text ahead of the second. -/
def pairsOK (ops : Array Oper) (m : Nat) (y : Oper) : Nat → List Oper → Bool
  | _, [] => true
  | j, x :: r => (!sameDst x.dst y.dst && (!conflict ops x y || Nat.testBit m j)) && pairsOK ops m y (j + 1) r
def allOK (ops : Array Oper) (T : List Nat) : Nat → List Oper → List Oper → Bool
  | _, _, [] => true
  | i, pre, y :: r => ((match T[i]? with | some m => pairsOK ops m y 0 pre | none => false) && (!dstIn y.dst (y.looksAt ops) && (y.after.toList.all fun e => !Region.binds .any e || Nat.blt e.on i))) && allOK ops T (i + 1) (pre ++ [y]) r
def drawOK (ops : Array Oper) : Bool := allOK ops (masks ops.toList []) 0 [] ops.toList

/-! ### A drawn region that calls with a pointer to a box: what only reads or makes new looks at nothing of the box -/
def opCur (P : Program) (vl : Operand → Option AV) (op : Op) (id : Nat) (σ : St) (K : AV → St → Prop) : Prop :=
  match op with
  | .call c => match c.callee with
    | .value f => need (vl f) fun
      | .c (.fn fid []) => match c.args.toList with
        | x :: rest => need (vl x) fun
          | .ptr i 0 => scase (Nat.beq i id) (need (vals vl rest) fun avs => need (get σ.objs id) fun
            | .box ds => need (cellsT ds) fun cs => need (mapO (argW σ.objs) avs) fun as => ∃ cs' rs, CurAt P fid cs cs' as rs ∧
                K (impR ⟨σ.env, Vm.put σ.objs id (.box (cs'.map ancC)), σ.next⟩ rs).1 ⟨σ.env, (impR ⟨σ.env, Vm.put σ.objs id (.box (cs'.map ancC)), σ.next⟩ rs).2.objs, (impR ⟨σ.env, Vm.put σ.objs id (.box (cs'.map ancC)), σ.next⟩ rs).2.next⟩
            | _ => False) False
          | _ => False
        | [] => False
      | _ => False
    | _ => False
  | _ => False
def hidO (P : Program) (E : Nat → Option TI) (ops : Array Oper) (id : Nat) (o : Oper) (σ : St) (K : AV → St → Prop) : Prop :=
  need (get σ.objs id) fun ob => evOpF P E false (frO false ops o) o.op ⟨σ.env, del σ.objs id, σ.next⟩ fun v σ' => K v ⟨σ'.env, (id, ob) :: σ'.objs, σ'.next⟩
def evOpD (P : Program) (E : Nat → Option TI) (ops : Array Oper) (id : Nat) (o : Oper) (σ : St) (K : AV → St → Prop) : Prop :=
  match isVal o.op with
  | true => opCur P (val σ.env) o.op id σ K ∨ hidO P E ops id o σ K
  | false => match Nat.beq (clsO ops o) 2 with
    | true => evOpF P E false (frO false ops o) o.op σ fun v σ' => get σ'.objs id = get σ.objs id ∧ K v σ'
    | false => hidO P E ops id o σ K
def noG (o : Oper) : Bool := match o.guard with
  | none => true
  | some _ => false
def evOpsD (P : Program) (E : Nat → Option TI) (nt : Nat) (ops : Array Oper) (id : Nat) : List Oper → (St → Prop) → St → Prop
  | [], K, σ => K σ
  | o :: rest, K, σ => scase (dstOk nt o.dst && noG o) (evOpD P E ops id o σ fun v σ' => putK σ' o.dst v (evOpsD P E nt ops id rest K)) False

/-! ### Relation -/
structure Rel (w0 : Base) (σ : St) (G : Gh) (nt : Nat) (a : Act) (w : World) : Prop where
  mem : Mem w0 σ.objs G w
  env : ∀ k v, get σ.env k = some v → v.rep σ.objs G w (a.tmps.getD k undef)
  lt : ∀ k v, get σ.env k = some v → k < nt ∨ isFrm v = true
  size : a.tmps.size = nt
  fresh : ∀ j, G.A j → j < σ.next
  wf : σ.wf
  defers : a.defers = []

/-! ### A region that is proved by hand: its last operation writes into a row of a row -/
def defOf (t : Nat) : List Oper → Option Op
  | [] => none
  | o :: r => match o.dst with
    | some d => bif Nat.beq d t then some o.op else defOf t r
    | none => defOf t r
def lastOp : List Oper → Option Op
  | [] => none
  | o :: r => match r with
    | [] => some o.op
    | _ => lastOp r
def nestAt (l : List Oper) (x : Nat) : Bool :=
  match defOf x l with
  | some (.indexAddr _ (.tmp y) _) => match defOf y l with
    | some (.load _ (.tmp z)) => match defOf z l with
      | some (.indexAddr ..) => true
      | _ => false
    | _ => false
  | _ => false
def isNest (l : List Oper) : Bool := match lastOp l with
  | some (.store _ (.tmp x) _) => nestAt l x
  | _ => false
/-- The last change of a drawn region appends to what the region itself has appended to. -/
def appAt (l : List Oper) (x : Nat) : Bool :=
  match defOf x l with
  | some (.call c) => match c.callee with
    | .builtin .append => match c.args.toList with
      | .tmp y :: _ => match defOf y l with
        | some (.call d) => match d.callee with
          | .builtin .append => true
          | _ => false
        | _ => false
      | _ => false
    | _ => false
  | _ => false
def isApp (l : List Oper) : Bool := match lastOp l with
  | some (.store _ _ (.tmp x)) => appAt l x
  | some (.assign (.tmp x)) => appAt l x
  | _ => false
/-- Results that are stored while others are still to be read. -/
def lateE : List Edge → Bool
  | [] => false
  | e :: r => match e.ground with
    | .textOnly _ => true
    | _ => lateE r
def isLate : List Oper → Bool
  | [] => false
  | o :: r => match o.op with
    | .store .. => lateE o.after.toList
    | _ => isLate r
/-- A region of six operations that stores what a call gives into a row of a box. -/
def isBent : List Oper → Bool
  | [o0, o1, o2, o3, o4, o5] => match o0.op, o1.op, o2.op, o3.op with
    | .fieldAddr .., .load .., .move .., .call _ => match o4.op, o5.op with
      | .indexAddr .., .store .. => true
      | _, _ => false
    | _, _, _, _ => false
  | _ => false
def isHand (ops : Array Oper) : Bool := bif isNest ops.toList || isBent ops.toList then true else bif (isApp ops.toList || isLate ops.toList) then !drawOK ops else false
def ncase (b : Bool) (x y : Prop) : Prop := match b with
  | true => x
  | false => y
def RegAt (P : Program) (nt : Nat) (c : Code) (K : St → Prop) (σ : St) : Prop :=
  ∀ (w0 : Base) (G : Gh) (a : Act) (w : World), Rel w0 σ G nt a w → c.wp P (fun e a' w' => e = .normal ∧ ∃ σ' G', K σ' ∧ Rel w0 σ' G' nt a' w') a w

def ev (P : Program) (E : Nat → Option TI) (nt : Nat) : Code → (Ex → St → Prop) → St → Prop
  | .skip, K, σ => K .normal σ
  | .region id ops false, K, σ => ncase (isNest ops.toList) (RegAt P nt (.region id ops false) (K .normal) σ) (evReg P E nt ops (K .normal) σ)
  | .region id ops true, K, σ => ncase (isHand ops) (RegAt P nt (.region id ops true) (K .normal) σ) ((drawOK ops = true ∧ evOps P E nt false ops ops.toList (K .normal) σ) ∨ (drawOK ops = true ∧ ∃ id, (∃ c, get σ.objs id = some c) ∧ evOpsD P E nt ops id ops.toList (K .normal) σ))
  | .seq a b, K, σ => ev P E nt a (fun e σ' => match e with | .normal => ev P E nt b K σ' | e => K e σ') σ
  | .cond c x y, K, σ => need (val σ.env c) fun
    | .c (.t (.bool b)) => bcase b (ev P E nt x K σ) (ev P E nt y K σ)
    | .nilq rows => (rows = [] → ev P E nt x K σ) ∧ ev P E nt y K σ
    | _ => False
  | .block id c, K, σ => ev P E nt c (fun e σ' => match e with
    | .exit k => bif Nat.beq k id then K .normal σ' else K (.exit k) σ'
    | e => K e σ') σ
  | .loop c, K, σ => ∃ (X : Type) (J : X → Prop) (I : X → St) (μ : X → Nat) (x0 : X), J x0 ∧ Sub σ (I x0) ∧
      ∀ x, J x → ev P E nt c (fun e σ' => match e with | .normal => ∃ x', (J x' ∧ μ x' < μ x) ∧ Sub σ' (I x') | e => K e σ') (I x)
  | .exit id, K, σ => K (.exit id) σ
  | .ret, K, σ => K .ret σ
  | _, _, _ => False

section
variable {P : Program} {E : Nat → Option TI} {nt : Nat} {inl : Bool} {w0 : Base} {σ : St} {G : Gh} {a : Act} {w : World}

theorem stripC_rep {O : List (Nat × Ob)} {G : Gh} {w : World} {x : C} {u : Value} (h : x.rep O G w u) : (stripC x).rep O G w u := by
  cases x with
  | anc x => obtain ⟨F, h1, h2, _⟩ := h; exact ⟨F, h1, h2⟩
  | _ => exact h
theorem stripCs_rep {O : List (Nat × Ob)} {G : Gh} {w : World} : ∀ {xs : List C} {us : List Value}, repCs O G w xs us → repCs O G w (xs.map stripC) us
  | [], _us, h => h
  | _x :: _xs, _, ⟨v, vs', h1, h2, h3⟩ => ⟨v, vs', h1, stripC_rep h2, stripCs_rep h3⟩
theorem strip_rep {O : List (Nat × Ob)} {G : Gh} {w : World} {v : AV} {u : Value} (h : v.rep O G w u) : (strip v).rep O G w u := by
  cases v with
  | c x => simp only [strip, AV.rep] at h ⊢; exact stripC_rep h
  | agg xs =>
    simp only [strip, AV.rep] at h ⊢
    obtain ⟨vs, h1, h2⟩ := h
    exact ⟨vs, h1, stripCs_rep h2⟩
  | pin x => simp only [AV.rep] at h; exact h.1
  | _ => exact h
theorem subC_rep {O : List (Nat × Ob)} {G : Gh} {w : World} {u u' : C} {v : Value} (h : subC u u') (hr : u.rep O G w v) : u'.rep O G w v := by
  unfold subC at h
  split at h
  · subst h; exact stripC_rep hr
  · subst h; exact hr
theorem subCs_rep {O : List (Nat × Ob)} {G : Gh} {w : World} : ∀ {us us' : List C} {vs : List Value}, subCs us us' → repCs O G w us vs → repCs O G w us' vs
  | [], [], _vs, _, hr => hr
  | _u :: _us, _u' :: _us', _, h, ⟨v, vs', h1, h2, h3⟩ => ⟨v, vs', h1, subC_rep h.1 h2, subCs_rep h.2 h3⟩
  | [], _ :: _, _, h, _ => h.elim
  | _ :: _, [], _, h, _ => h.elim

theorem Rel.opsR (h : Rel w0 σ G nt a w) (op : Op) : OpsRep (valR σ.env) op σ.objs G w a := by
  intro x _ v hv
  cases x with
  | tmp t =>
    simp only [valR] at hv
    split at hv
    · rename_i u hu
      injection hv with hv
      subst hv
      have := h.env t _ hu
      simp only [AV.rep] at this
      exact this.1
    · rename_i u _ hu
      injection hv with hv
      subst hv
      exact h.env t _ hu
    · cases hv
  | const c => exact constAV_rep hv
  | global g => cases hv
  | func f =>
    simp only [valR, Option.some.injEq] at hv
    subst hv
    exact ⟨rfl, by simp⟩
theorem Rel.ops (h : Rel w0 σ G nt a w) (op : Op) : OpsRep (val σ.env) op σ.objs G w a := by
  intro x _ v hv
  cases x with
  | tmp t =>
    simp only [val] at hv
    split at hv
    · rename_i u hu
      injection hv with hv
      subst hv
      exact strip_rep (h.env t u hu)
    · cases hv
  | const c => exact constAV_rep hv
  | global g => cases hv
  | func f =>
    simp only [val, Option.some.injEq] at hv
    subst hv
    exact ⟨rfl, by simp⟩

theorem getD_put_same {a : Act} {d : Nat} {v : Value} (h : d < a.tmps.size) : (a.put (some d) v).tmps.getD d undef = v := by
  simp [Act.put, Array.getD, h]
theorem getD_put_other {a : Act} {d k : Nat} {v : Value} (h : k ≠ d) : (a.put (some d) v).tmps.getD k undef = a.tmps.getD k undef := by
  simp [Act.put, Array.getD_eq_getD_getElem?, Array.getElem?_setIfInBounds_ne (Ne.symm h)]

/-- Behind an operation: its value in its slot. -/
theorem Rel.put {σ' : St} {G' : Gh} {w' : World} (h : Rel w0 σ G nt a w) (he : σ'.env = σ.env) (hM : Mem w0 σ'.objs G' w') (hp : Pres σ.objs G w σ'.objs G' w') {av : AV} {v : Value} (hv : av.rep σ'.objs G' w' v)
    (hf : ∀ j, G'.A j → j < σ'.next) (hw : σ'.wf) {d : Option Nat} (hd : dstOk nt d = true) : Rel w0 (σ'.put d av) G' nt (a.put d v) w' := by
  cases d with
  | none =>
    refine ⟨hM, fun k u hk => ?_, fun k u hk => ?_, h.size, hf, hw, h.defers⟩
    · have : get σ.env k = some u := by rw [← he]; exact hk
      exact u.rep_pres hp _ (h.env k u this)
    · exact h.lt k u (by rw [← he]; exact hk)
  | some d =>
    have hd' : d < nt := by
      have : d + 1 ≤ nt := by simpa [dstOk, Nat.blt] using hd
      omega
    refine ⟨hM, fun k u hk => ?_, fun k u hk => ?_, by simp [Act.put, h.size], hf, fun id o ho => hw id o ho, h.defers⟩
    · have hk' : get ((d, av) :: σ'.env) k = some u := hk
      by_cases e : k = d
      · subst e
        rw [get_cons_same] at hk'
        injection hk' with hk'
        subst hk'
        rw [getD_put_same (by rw [h.size]; exact hd')]
        exact hv
      · rw [get_cons_other _ _ _ _ e, he] at hk'
        rw [getD_put_other e]
        exact u.rep_pres hp _ (h.env k u hk')
    · have hk' : get ((d, av) :: σ'.env) k = some u := hk
      by_cases e : k = d
      · subst e; exact .inl hd'
      · rw [get_cons_other _ _ _ _ e, he] at hk'
        exact h.lt k u hk'

/-- A slot's value known more closely: a bool's. -/
theorem Rel.lit {d : Nat} {b c : Bool} (h : Rel w0 σ G nt a w) (hb : get σ.env d = some (.c (.t (.bool b)))) (e : b = c) : Rel w0 (σ.put (some d) (vbool c)) G nt a w := by
  subst e
  refine ⟨h.mem, fun k u hk => ?_, fun k u hk => ?_, h.size, h.fresh, fun id o ho => h.wf id o ho, h.defers⟩
  · have hk' : get ((d, vbool b) :: σ.env) k = some u := hk
    by_cases e : k = d
    · subst e
      rw [get_cons_same] at hk'
      injection hk' with hk'
      subst hk'
      exact h.env k _ hb
    · rw [get_cons_other _ _ _ _ e] at hk'; exact h.env k u hk'
  · have hk' : get ((d, vbool b) :: σ.env) k = some u := hk
    by_cases e : k = d
    · subst e; exact .inl ((h.lt k _ hb).resolve_right (by simp [isFrm]))
    · rw [get_cons_other _ _ _ _ e] at hk'; exact h.lt k u hk'

theorem soundB_wp {o : Oper} {K : AV → St → Prop} {vl : Operand → Option AV} (hops : OpsRep vl o.op σ.objs G w a) (h : SoundB P vl o σ K) (hR : Rel w0 σ G nt a w) (hd : dstOk nt o.dst = true) {Kc : Act → World → Prop} {Q : Exit → Act → World → Prop}
    (hK : ∀ av σ' G' a' w', K av σ' → Rel w0 (σ'.put o.dst av) G' nt a' w' → Kc a' w') : o.wp P a w Kc Q := by
  obtain ⟨av, σ', hk, hext, hwf, hg⟩ := h
  have hnl : ∀ j, G.A j → get σ'.objs j = get σ.objs j := fun j hj => hext.objs j (hR.fresh j hj)
  have hp : Pres σ.objs G w σ'.objs G w := ⟨fun id h => ⟨h, rfl⟩, fun id hl b hb => .inl ⟨id, ⟨hl.1, by obtain ⟨ob, hob⟩ := hl.2; exact ⟨ob, by rw [← hnl id hl.1]; exact hob⟩⟩, hb⟩, fun _ _ _ => rfl, Nat.le_refl _, rfl, rfl⟩
  have hlv : ∀ id, Lv σ'.objs G id → Lv σ.objs G id := fun id hl => ⟨hl.1, by obtain ⟨ob, hob⟩ := hl.2; exact ⟨ob, by rw [← hnl id hl.1]; exact hob⟩⟩
  have hM : Mem w0 σ'.objs G w := by
    have hm := hR.mem
    exact ⟨hm.below, hm.base, hm.fix, fun id ob ha ho => Ob.rep_pres hp rfl rfl rfl (hm.hds id (hlv id ⟨ha, ob, ho⟩)) (fun _ _ => rfl) ob (hm.obs id ob ha (by rw [← hnl id ha]; exact ho)),
      fun id hl => hm.nodup id (hlv id hl), fun i j hi hj => hm.disj i j (hlv i hi) (hlv j hj), fun id hl => hm.lo id (hlv id hl), fun id hl => hm.hds id (hlv id hl)⟩
  refine hg w0 σ'.objs G w a Kc Q (fun _ _ h => h) hM (fun x hx v hv => v.rep_pres hp _ (hops x hx v hv)) (fun j h1 h2 ha => Nat.lt_irrefl _ (Nat.lt_of_lt_of_le (hR.fresh j ha) h1)) (fun G' v w' hM' hp' hv hA => ?_)
  refine hK av σ' G' _ w' hk (hR.put hext.env hM' (hp.trans hp') hv (fun j hj => ?_) hwf hd)
  rcases hA j hj with h | h
  · exact Nat.lt_of_lt_of_le (hR.fresh j h) hext.next
  · exact h.2

theorem evOp_sound (hE : TOk P E) {o : Oper} {K : AV → St → Prop} (h : evOp P E inl o.op σ K) (hR : Rel w0 σ G nt a w) (hd : dstOk nt o.dst = true) {Kc : Act → World → Prop} {Q : Exit → Act → World → Prop}
    (hK : ∀ av σ' G' a' w', K av σ' → Rel w0 (σ'.put o.dst av) G' nt a' w' → Kc a' w') : o.wp P a w Kc Q := by
  have caseA' : ∀ vl : Operand → Option AV, OpsRep vl o.op σ.objs G w a → opA E vl o.op (fun v => K v σ) → o.wp P a w Kc Q := fun vl hops h => by
    obtain ⟨av, hk, hg⟩ := opA_sound hE h
    obtain ⟨v, h1, h2⟩ := hg σ.objs G w a hops
    exact wp_value h1 (hK av σ G _ w hk (hR.put rfl hR.mem Pres.refl h2 hR.fresh hR.wf hd))
  have caseA := caseA' (val σ.env) (hR.ops o.op)
  have caseAR := caseA' (valR σ.env) (hR.opsR o.op)
  have caseB' : ∀ vl : Operand → Option AV, OpsRep vl o.op σ.objs G w a → opB P E vl o.op σ K → o.wp P a w Kc Q := fun vl hops h => soundB_wp hops (opB_sound hE hR.wf h) hR hd hK
  have caseB := caseB' (val σ.env) (hR.ops o.op)
  have caseBR := caseB' (valR σ.env) (hR.opsR o.op)
  have caseE : opE E (val σ.env) o.op σ K → o.wp P a w Kc Q := fun h => by
    obtain ⟨av, σ', hk, henv, hnext, hwf, hg⟩ := opE_sound hE hR.wf h
    exact hg w0 G w a Kc Q hR.mem (hR.ops o.op) hR.fresh (fun G' v w' hM' hp hv hA => hK av σ' G' _ w' hk (hR.put henv hM' hp hv hA hwf hd))
  obtain ⟨dst, op, type, pos, after, guard⟩ := o
  simp only at h hd hK caseA caseAR caseB caseBR caseE ⊢
  cases op with
  | store t x v => exact caseE h
  | alloc t => exact caseB h
  | box t x => cases inl with
    | true => exact caseBR h
    | false => exact caseB h
  | build t ps => cases inl with
    | true => exact caseBR h
    | false => exact caseB h
  | move x => cases inl with
    | true => exact caseAR h
    | false => exact caseA h
  | buildSlice t n ps => exact caseB h
  | load t x => exact caseB h
  | makeSlice t l c => exact caseB h
  | indexAddr t x i => exact caseB h
  | slice t x l hh m => exact caseB h
  | convert s d x => exact caseB h
  | call c =>
    obtain ⟨cal, args, argTypes⟩ := c
    cases cal with
    | builtin b => cases b <;> first | exact caseE h | exact caseB h | exact caseA h
    | invoke r m => exact caseA h
    | value f =>
      rcases h with h | ⟨_, h⟩
      · exact caseB h
      · rcases h with h | h
        case inr =>
          rcases h with h | h
          case inr =>
            have h' := need_some h; clear h
            obtain ⟨vf, ef, h⟩ := h'
            split at h
            · rename_i fid
              have h' := need_some h; clear h
              obtain ⟨avs, eavs, h⟩ := h'
              obtain ⟨hent, hin⟩ := h
              have hops := hR.ops (.call { callee := .value f, args, argTypes })
              obtain ⟨h1, _⟩ := hops f (by simp [Op.operands, Call.operands]) _ ef
              have hargs := vals_rep (O := σ.objs) (G := G) (w := w) (a := a) eavs (fun x hx => hops x (by simp only [Op.operands, Call.operands]; simp [Array.mem_toList_iff.1 hx]))
              have hrun := run_call (P := P) (dst := dst) (type := type) (pos := pos) (after := after) (guard := guard) hent (fo := f) (args := args) (argTypes := argTypes) (a := a) (caps := []) (by simpa using h1) w
              unfold Oper.wp
              rw [hrun]
              show Calls P fid _ w _
              rw [List.append_nil]
              refine hin w0 G w _ a.tmps _ hR.mem hR.wf hargs hR.fresh (fun k v hk => ⟨by rw [hR.size]; exact hR.lt k v hk, hR.env k v hk⟩) (fun av σ' G' v w' hk hwf hM' he hv hf => ?_)
              have hR1 : Rel w0 σ' G' nt a w' := ⟨hM', fun k u hu => (he k u hu).2, fun k u hu => .inl (by rw [← hR.size]; exact (he k u hu).1), hR.size, hf, hwf, hR.defers⟩
              exact hK av σ' G' _ w' hk (hR1.put rfl hM' Pres.refl hv hf hwf hd)
            · exact h.elim
          obtain ⟨av, σ', hk, hnx, hwf', henv, hg⟩ := opM_sound (dst := dst) (type := type) (pos := pos) (after := after) (guard := guard) (argTypes := argTypes) hR.wf h
          refine hg w0 G w a Kc Q hR.mem (hR.ops (.call { callee := .value f, args, argTypes })) (fun G' v w' hM' hs hv hA => ?_)
          have hR1 : Rel w0 σ' G' nt a w' := ⟨hM', fun k u hu => by obtain ⟨h1, h2⟩ := henv k u hu; exact hs u _ h2 (hR.env k u h1), fun k u hu => hR.lt k u (henv k u hu).1, hR.size, fun j hj => by rw [hnx]; exact hR.fresh j (hA j hj), hwf', hR.defers⟩
          exact hK av σ' G' _ w' hk (hR1.put rfl hM' Pres.refl hv hR1.fresh hwf' hd)
        have h' := need_some h; clear h
        obtain ⟨vf, ef, h⟩ := h'
        split at h
        · rename_i fid
          have h' := need_some h; clear h
          obtain ⟨avs, eavs, h⟩ := h'
          obtain ⟨hent, hin⟩ := h
          have hops := hR.opsR (.call { callee := .value f, args, argTypes })
          obtain ⟨h1, _⟩ := hops f (by simp [Op.operands, Call.operands]) _ ef
          have hargs := vals_rep (O := σ.objs) (G := G) (w := w) (a := a) eavs (fun x hx => hops x (by simp only [Op.operands, Call.operands]; simp [Array.mem_toList_iff.1 hx]))
          have hrun := run_call (P := P) (dst := dst) (type := type) (pos := pos) (after := after) (guard := guard) hent (fo := f) (args := args) (argTypes := argTypes) (a := a) (caps := []) (by simpa using h1) w
          unfold Oper.wp
          rw [hrun]
          show Calls P fid _ w _
          rw [List.append_nil]
          refine hin w0 G w _ _ hR.mem hR.wf hargs hR.fresh (fun av objs' next' G' v w' hk hwf hM' hp hv hf => ?_)
          exact hK av _ G' _ w' hk (hR.put (σ' := ⟨σ.env, objs', next'⟩) rfl hM' hp hv hf hwf hd)
        · exact h.elim
  | _ => exact caseA h

theorem evOpF_sound (hE : TOk P E) {o : Oper} {fr : Bool} {K : AV → St → Prop} (h : evOpF P E inl fr o.op σ K) (hR : Rel w0 σ G nt a w) (hd : dstOk nt o.dst = true) {Kc : Act → World → Prop} {Q : Exit → Act → World → Prop}
    (hK : ∀ av σ' G' a' w', K av σ' → Rel w0 (σ'.put o.dst av) G' nt a' w' → Kc a' w') : o.wp P a w Kc Q := by
  cases fr with
  | true => exact soundB_wp (hR.ops o.op) (opF_sound hE hR.wf h) hR hd hK
  | false => exact evOp_sound hE h hR hd hK

theorem evOps_sound (hE : TOk P E) {ops : Array Oper} {Q : Exit → Act → World → Prop} {tl : List Oper} : ∀ (l : List Oper) {K : St → Prop} {σ : St} {G : Gh} {a : Act} {w : World}, evOps P E nt inl ops l K σ → Rel w0 σ G nt a w →
    (∀ σ' G' a' w', K σ' → Rel w0 σ' G' nt a' w' → wpList P ops Q tl a' w') → wpList P ops Q (l ++ tl) a w
  | [], K, σ, G, a, w, h, hR, hQ => hQ σ G a w h hR
  | o :: rest, K, σ, G, a, w, h, hR, hQ => by
    simp only [evOps, putK_eq] at h
    rcases scase_out h with ⟨hd, h⟩ | ⟨_, h⟩
    case inr => exact h.elim
    have go : ∀ {σ : St} {a : Act}, Region.wanted o (yielded ops a.tmps) = true → Rel w0 σ G nt a w → evOpF P E inl (frO inl ops o) o.op σ (fun v σ' => evOps P E nt inl ops rest K (σ'.put o.dst v)) → wpList P ops Q (o :: (rest ++ tl)) a w := by
      intro σ a hwant hR h
      unfold wpList
      rw [if_pos hwant]
      exact .inl (evOpF_sound hE h hR hd (fun av σ' G' a' w' hk hR' => evOps_sound hE rest hk hR' hQ))
    have skip : ∀ {σ : St} {a : Act}, Region.wanted o (yielded ops a.tmps) = false → Rel w0 σ G nt a w → evOps P E nt inl ops rest K (σ.put o.dst .junk) → wpList P ops Q (o :: (rest ++ tl)) a w := by
      intro σ a hwant hR h
      unfold wpList
      rw [if_neg (by simp [hwant])]
      exact evOps_sound hE rest h (hR.put rfl hR.mem Pres.refl (by simp only [AV.rep]) hR.fresh hR.wf hd) hQ
    split at h
    · rename_i hg
      exact go (by simp [Region.wanted, hg]) hR h
    · rename_i j want hg
      have h' := need_some h; clear h
      obtain ⟨d, ed, h⟩ := h'
      have yld : ∀ v, d < nt → a.tmps.getD d undef = v → yielded ops a.tmps j = (match v with | .bool b => some b | _ => none) := by
        intro v hdn hv
        have hdl : d < a.tmps.size := by rw [hR.size]; exact hdn
        unfold yielded
        rw [ed]
        simp only [Option.bind_some]
        rw [Array.getElem?_eq_getElem hdl]
        have : a.tmps[d] = v := by rw [← hv]; simp [Array.getD, hdl]
        rw [this]
        cases v <;> rfl
      split at h
      · rename_i b hb
        have hv := bool_of (hR.env d _ hb)
        have hy := yld _ ((hR.lt d _ hb).resolve_right (by simp [isFrm])) hv
        simp only at hy
        cases want with
        | true =>
          simp only at h
          rcases bcase_out h with ⟨hbt, h⟩ | ⟨hbf, h⟩
          · exact go (by simp [Region.wanted, hg, hy, hbt]) (hR.lit hb hbt) h
          · exact skip (by simp [Region.wanted, hg, hy, hbf]) (hR.lit hb hbf) h
        | false =>
          simp only at h
          rcases bcase_out h with ⟨hbt, h⟩ | ⟨hbf, h⟩
          · exact skip (by simp [Region.wanted, hg, hy, hbt]) (hR.lit hb hbt) h
          · exact go (by simp [Region.wanted, hg, hy, hbf]) (hR.lit hb hbf) h
      · rename_i hb
        have hv := hR.env d _ hb
        simp only [AV.rep] at hv
        have hy := yld _ ((hR.lt d _ hb).resolve_right (by simp [isFrm])) hv
        exact skip (by simp [Region.wanted, hg, hy, undef]) hR h
      · exact h.elim

theorem fuse_some {o : Oper} {rest : List Oper} {q : Fuse} (h : fuse nt o rest = some q) : ∃ ty1 p1 af1 ty2 p2 af2 ty3 p3 af3 at3 rest', o = ⟨some q.d1, .load q.t q.x, ty1, p1, af1, none⟩ ∧
    rest = ⟨some q.d2, .move q.y, ty2, p2, af2, none⟩ :: ⟨q.d3, .call { callee := .value (.func q.f), args := ⟨[.tmp q.d1, .tmp q.d2]⟩, argTypes := at3 }, ty3, p3, af3, none⟩ :: rest' ∧
    q.d2 ≠ q.d1 ∧ notTmp q.d1 q.y = true ∧ q.d1 < nt ∧ q.d2 < nt ∧ dstOk nt q.d3 = true := by
  unfold fuse at h
  split at h
  · rename_i d1 t x ty1 p1 af1 d2 y ty2 p2 af2 d3 f a1 a2 at3 ty3 p3 af3 rest'
    generalize hc : fuseOk nt d1 d2 a1 a2 y d3 = c at h
    cases c with
    | false => cases h
    | true =>
      simp only [Option.some.injEq] at h
      subst h
      simp only [fuseOk, Bool.and_eq_true, Bool.not_eq_true'] at hc
      obtain ⟨⟨⟨h1, h2⟩, h3, h4⟩, ⟨h5, h6⟩, h7⟩ := hc
      have e1 := Nat.eq_of_beq_eq_true h1
      have e2 := Nat.eq_of_beq_eq_true h2
      subst e1 e2
      refine ⟨ty1, p1, af1, ty2, p2, af2, ty3, p3, af3, at3, rest', rfl, rfl, fun e => by simp only at e; rw [e] at h3; simp at h3, h4, ?_, ?_, ?_⟩
      · have : a1 + 1 ≤ nt := by simpa [Nat.blt] using h5
        exact this
      · have : a2 + 1 ≤ nt := by simpa [Nat.blt] using h6
        exact this
      · cases d3 <;> first | rfl | exact h7
  · cases h

theorem mrep_of_load {m : RV} {us : List Value} {F : List Nat} (h : repCells w (mT m) us F) (hw : mW m) (hF : ∀ b ∈ F, ∃ arr e, w.heap[b]? = some (.cells arr e (0, 0))) :
    ∃ v, m.mrep w v F ∧ ((mAgg m = true ∧ v = .agg us.toArray) ∨ (mAgg m = false ∧ us = [v])) := by
  cases m with
  | one r =>
    simp only [mT, repCells] at h
    obtain ⟨v, cs', F1, F2, rfl, rfl, h3, rfl, rfl⟩ := h
    simp only [List.append_nil] at hF ⊢
    exact ⟨v, cell_mrep h3 hw hF, .inr ⟨rfl, rfl⟩⟩
  | agg rs => exact ⟨.agg us.toArray, ⟨us, rfl, cells_mrep h hw hF⟩, .inl ⟨rfl, rfl⟩⟩
theorem load_of_mrep {m m' : RV} {us : List Value} {v : Value} {F : List Nat} (h : m'.mrep w v F) (hv : (mAgg m = true ∧ v = .agg us.toArray) ∨ (mAgg m = false ∧ us = [v])) (he : mAgg m' = mAgg m) : ∃ F', repCells w (mT m') us F' ∧ F'.Sublist F := by
  cases m' with
  | one r =>
    rcases hv with ⟨h1, _⟩ | ⟨_, rfl⟩
    · rw [h1] at he; cases he
    · obtain ⟨F', h2, h3⟩ := mrep_cell h
      exact ⟨F', by simp only [mT, repCells]; exact ⟨v, [], F', [], rfl, by simp, h2, rfl, rfl⟩, h3⟩
  | agg rs =>
    rcases hv with ⟨_, h2⟩ | ⟨h1, _⟩
    · obtain ⟨vs, h3, h4⟩ := h
      rw [h2] at h3
      injection h3 with h3
      have h5 : us = vs := by simpa using congrArg Array.toList h3
      subst h5
      exact mrep_cells h4
    · rw [h1] at he; cases he

theorem getD_put_ne {a : Act} {d : Option Nat} {k : Nat} {v : Value} (h : d ≠ some k) : (a.put d v).tmps.getD k undef = a.tmps.getD k undef := by
  cases d with
  | none => rfl
  | some d => exact getD_put_other (fun e => h (by rw [e]))

theorem evF_sound (hE : TOk P E) {ops : Array Oper} {Q : Exit → Act → World → Prop} {q : Fuse} {ty1 ty2 ty3 : TypeId} {p1 p2 p3 : String} {af1 af2 af3 : Array Edge} {at3 : Array TypeId} {rest : List Oper}
    (hne : q.d2 ≠ q.d1) (hyt : notTmp q.d1 q.y = true) (hd1 : q.d1 < nt) (hd2 : q.d2 < nt) (hd3 : dstOk nt q.d3 = true) {K : St → Prop} (h : evF P E q K σ) (hR : Rel w0 σ G nt a w)
    (hQ : ∀ σ' G' a' w', K σ' → Rel w0 σ' G' nt a' w' → wpList P ops Q rest a' w') :
    wpList P ops Q (⟨some q.d1, .load q.t q.x, ty1, p1, af1, none⟩ :: ⟨some q.d2, .move q.y, ty2, p2, af2, none⟩ :: ⟨q.d3, .call { callee := .value (.func q.f), args := ⟨[.tmp q.d1, .tmp q.d2]⟩, argTypes := at3 }, ty3, p3, af3, none⟩ :: rest) a w := by
  unfold evF at h
  have h' := need_some h; clear h
  obtain ⟨ti, eti, h⟩ := h'
  have h' := need_some h; clear h
  obtain ⟨vx, evx, h⟩ := h'
  split at h
  case h_2 => exact h.elim
  rename_i id sz i off
  have h' := need_some h; clear h
  obtain ⟨ob, eo, h⟩ := h'
  split at h
  case h_2 => exact h.elim
  rename_i app sz' rows
  obtain ⟨rfl, cs, hcs, h⟩ := h
  have h' := need_some h; clear h
  obtain ⟨ay, eay, h⟩ := h'
  have h' := need_some h; clear h
  obtain ⟨va, eva, m, m', y, ⟨⟨hmT, hlen⟩, ⟨hag, hag'⟩, hmW⟩, ⟨hent, hy, hmut⟩, hK⟩ := h'
  have hM := hR.mem
  -- the row and its part
  have hxr := hR.ops (.load q.t q.x) q.x (by simp [Op.operands]) _ evx
  simp only [AV.rep] at hxr
  obtain ⟨hA, ad, nn, cc, hφ, hptr⟩ := hxr
  have hlv : Lv σ.objs G id := ⟨hA, _, eo⟩
  obtain ⟨css, F', r1, r2, r3, r4⟩ := hM.obs id _ hA eo
  simp only [if_true] at r4
  obtain ⟨_, _, _, _, hweak, _⟩ := hM.row hA eo
  have hweak : RowWeak w (G.φ id) rows.length sz css := by
    cases app with
    | true => simp only [if_true] at r3; exact r3.1.weak r2
    | false => simp only [Bool.false_eq_true, if_false] at r3; exact r3.1
  obtain ⟨FA, Fi, FB, vs, hF', c1, c2, hset⟩ := repRows_set r1 hcs
  obtain ⟨F1, F2, F3, hFi, s1, s2, s3⟩ := repCells_split off ti.size c2
  rw [← hmT] at s2
  have hlt : i < rows.length := (List.getElem?_eq_some_iff.1 hcs).1
  obtain ⟨A', c', hv', hnc, hcells⟩ := hweak
  obtain ⟨ad', hA', _, hgrid⟩ := hcells (by omega)
  rw [hφ] at hv'
  injection hv' with e1 _ _
  rw [hA'] at e1
  injection e1 with e1
  subst e1
  have hcell : ∀ b ∈ G.Φ id, ∃ arr e, w.heap[b]? = some (.cells arr e (0, 0)) := fun b hb => (hM.lo id hlv b hb).2
  have hsubF : ∀ b, b ∈ F2 → b ∈ G.Φ id := fun b hb => by rw [r4, hF', hFi]; simp [hb]
  obtain ⟨v, hmv, hvv⟩ := mrep_of_load s2 hmW (fun b hb => hcell b (hsubF b hb))
  have hul : ((vs.drop off).take ti.size).length = ti.size := (repCells_length s2).symm.symm.trans hlen
  have hload : (loadVar q.t (ad.add (i * sz + off))).run P w = .ok v w := by
    have hc : ∀ (j : Nat) u, ((vs.drop off).take ti.size)[j]? = some u → w.cell? ((ad.add (i * sz + off)).add j) = some u := fun j u hu => by
      rw [add_of_add, Nat.add_assoc]
      have hj : j < ti.size := by have := (List.getElem?_eq_some_iff.1 hu).1; omega
      rw [List.getElem?_take_of_lt hj] at hu
      exact hgrid i vs c1 _ u (drop_get hu)
    obtain ⟨l1, l2⟩ := run_loadVar (hE q.t ti eti) (ad.add (i * sz + off)) w _ hc
    rcases hvv with ⟨h1, h2⟩ | ⟨h1, h2⟩
    · rw [h2]; exact l1 (by rw [← hag]; exact h1) hul
    · exact l2 (by rw [← hag]; exact h1) v (by rw [h2]; rfl)
  -- the three steps
  have hnd := hM.nodup id hlv
  have hF2n : F2.Nodup := by
    rw [r4, hF', hFi] at hnd
    have e : G.h id ++ (FA ++ (F1 ++ F2 ++ F3) ++ FB) = (G.h id ++ FA ++ F1) ++ (F2 ++ (F3 ++ FB)) := by simp
    rw [e] at hnd
    exact (List.nodup_append.1 (List.nodup_append.1 hnd).2.1).1
  have ey : a.eval q.y = (a.put (some q.d1) v).eval q.y := by
    cases hq : q.y with
    | tmp k =>
      rw [hq] at hyt
      have hk : k ≠ q.d1 := fun e => by simp [notTmp, e] at hyt
      exact (getD_put_other hk).symm
    | _ => rfl
  have hvay := hR.ops (.move q.y) q.y (by simp [Op.operands]) _ eay
  obtain ⟨Fy, hvy⟩ := argV_sound hM eva hvay
  have ea1 : ((a.put (some q.d1) v).put (some q.d2) (a.eval q.y)).eval (.tmp q.d1) = v := by
    show Array.getD _ _ undef = _
    rw [getD_put_other (Ne.symm hne), getD_put_same (by rw [hR.size]; exact hd1)]
  have ea2 : ((a.put (some q.d1) v).put (some q.d2) (a.eval q.y)).eval (.tmp q.d2) = a.eval q.y := by
    show Array.getD _ _ undef = _
    rw [getD_put_same (by simp [Act.put, hR.size]; exact hd2)]
  have hcall := run_call (P := P) (dst := q.d3) (type := ty3) (pos := p3) (after := af3) (guard := none) hent (fo := .func q.f) (args := ⟨[.tmp q.d1, .tmp q.d2]⟩) (argTypes := at3) (a := (a.put (some q.d1) v).put (some q.d2) (a.eval q.y)) (caps := []) rfl w
  simp only [List.map_cons, List.map_nil, List.append_nil, ea1, ea2] at hcall
  unfold wpList
  rw [if_pos (by simp [Region.wanted])]
  refine .inl (wp_value (run_load_op hptr hload) ?_)
  unfold wpList
  rw [if_pos (by simp [Region.wanted])]
  refine .inl (wp_value (v := a.eval q.y) (w' := w) (by rw [ey]; simp [execOp]) ?_)
  unfold wpList
  rw [if_pos (by simp [Region.wanted])]
  refine .inl ?_
  unfold Oper.wp
  rw [hcall]
  show Calls P q.f _ w _
  refine Calls.mono (hmut w v [a.eval q.y] F2 hmv hF2n (fun b hb => hcell b (hsubF b hb)) ⟨_, _, Fy, rfl, hvy, rfl⟩) ?_
  rintro e w' ⟨u, F2', rfl, hu, hm', hF2', hFc, hbel⟩
  show wpList P ops Q rest _ w'
  obtain ⟨F2n, t1, t2⟩ := load_of_mrep hm' hvv (by rw [hag, hag'])
  have hlt2 : ∀ b ∈ G.Φ id, b < w.heap.size := fun b hb => by obtain ⟨arr, e, hh⟩ := hcell b hb; exact (Array.getElem?_eq_some_iff.1 hh).1
  have hnF2 : ∀ b ∈ F2n, (b ∈ F2 ∨ w.heap.size ≤ b) ∧ ∃ arr e, w'.heap[b]? = some (.cells arr e (0, 0)) := fun b hb => hFc b (t2.subset hb)
  rw [r4, hF', hFi] at hnd
  have eA : G.h id ++ (FA ++ (F1 ++ F2 ++ F3) ++ FB) = (G.h id ++ FA ++ F1) ++ F2 ++ (F3 ++ FB) := by simp
  rw [eA] at hnd
  have hout : ∀ b ∈ (G.h id ++ FA ++ F1) ++ (F3 ++ FB), b ∈ G.Φ id ∧ b ∉ F2 := fun b hb => by
    refine ⟨by rw [r4, hF', hFi, eA]; simp only [List.mem_append] at hb ⊢; rcases hb with ((h | h) | h) | (h | h) <;> simp [h], fun hb2 => ?_⟩
    rw [List.append_assoc, List.nodup_append] at hnd
    obtain ⟨_, n2, n3⟩ := hnd
    rcases List.mem_append.1 hb with hb | hb
    · exact n3 b hb b (by simp [hb2]) rfl
    · exact (List.nodup_append.1 n2).2.2 b hb2 b hb rfl
  have hkeep : ∀ b ∈ (G.h id ++ FA ++ F1) ++ (F3 ++ FB), w'.heap[b]? = w.heap[b]? := fun b hb => hbel.block b (hlt2 b (hout b hb).1) (hout b hb).2
  have hnewN : ((G.h id ++ FA ++ F1) ++ F2n ++ (F3 ++ FB)).Nodup := nodup_swap hnd (hF2'.sublist t2) (fun b hb hbn => by
    rcases (hnF2 b hbn).1 with h | h
    · exact (hout b hb).2 h
    · have := hlt2 b (hout b hb).1
      omega)
  have eB : G.h id ++ (FA ++ (F1 ++ F2n ++ F3) ++ FB) = (G.h id ++ FA ++ F1) ++ F2n ++ (F3 ++ FB) := by simp
  have hvs : vs.length = cs.length := repCells_length c2
  have hrow' : repRows w' (rows.set i (cs.take off ++ mT m' ++ cs.drop (off + ti.size))) css (FA ++ (F1 ++ F2n ++ F3) ++ FB) := by
    have hcr : repCells w' (cs.take off ++ mT m' ++ cs.drop (off + ti.size)) vs (F1 ++ F2n ++ F3) := by
      rw [cut3 vs off ti.size]
      exact repCells_append (repCells_append (repCells_keep _ _ _ s1 (fun b hb => hkeep b (by simp [hb]))) t1) (repCells_keep _ _ _ s3 (fun b hb => hkeep b (by simp [hb])))
    have := hset _ vs _ w' hcr (fun b hb => hkeep b (by rcases List.mem_append.1 hb with hb | hb <;> simp [hb]))
    rwa [show css.set i vs = css from by
      apply List.ext_getElem?
      intro k
      rw [List.getElem?_set]
      split
      · rename_i e; subst e
        split
        · exact c1.symm
        · rename_i hh; have := (List.getElem?_eq_some_iff.1 c1).1; omega
      · rfl] at this
  obtain ⟨hM', hsafe⟩ := Mem.mut (G' := G.upd [(id, (G.h id ++ (FA ++ (F1 ++ F2n ++ F3) ++ FB), G.h id))]) (O' := filtD safeOb [] (Vm.put σ.objs id (.row true app sz (rows.set i (cs.take off ++ mT m' ++ cs.drop (off + ti.size)))))) hM [id] (by simpa using hlv) F2
    (fun b hb => ⟨id, by simp, hsubF b hb⟩) hbel (fun j hj => ⟨hj, rfl⟩) (fun j hj => hj) ⟨rfl, rfl⟩ (fun j hj => by
      have hj' : j ≠ id := by simpa using hj
      exact ⟨by simp only [Gh.upd, get, beq_ne hj', cond_false], by simp only [Gh.upd, get, beq_ne hj', cond_false]⟩)
    (fun j o hj ho => by
      obtain ⟨_, h1, h2⟩ := get_filtD ho
      rw [get_put_other _ _ _ _ (by simpa using hj)] at h1
      exact ⟨h1, h2⟩)
    (fun j hj => by
      obtain rfl := List.mem_singleton.1 hj
      simp only [Gh.upd, get_cons_same]
      rw [eB]; exact hnewN)
    (fun j k hj hk hjk => by
      obtain rfl := List.mem_singleton.1 hj
      obtain rfl := List.mem_singleton.1 hk
      exact absurd rfl hjk)
    (fun j hj b hb => by
      obtain rfl := List.mem_singleton.1 hj
      simp only [Gh.upd, get_cons_same] at hb
      rw [eB] at hb
      have ho : b ∈ (G.h j ++ FA ++ F1) ++ (F3 ++ FB) → (b ∈ G.Φ j) ∧ ∃ arr e, w'.heap[b]? = some (.cells arr e (0, 0)) := fun h => ⟨(hout b h).1, by rw [hkeep b h]; exact hcell b (hout b h).1⟩
      rcases List.mem_append.1 hb with hb | hb
      · rcases List.mem_append.1 hb with hb | hb
        · obtain ⟨o1, o2⟩ := ho (List.mem_append_left _ hb)
          exact ⟨.inl ⟨j, by simp, o1⟩, o2⟩
        · obtain ⟨o1, o2⟩ := hnF2 b hb
          exact ⟨o1.imp (fun h => ⟨j, by simp, hsubF b h⟩) (fun h => h), o2⟩
      · obtain ⟨o1, o2⟩ := ho (List.mem_append_right _ hb)
        exact ⟨.inl ⟨j, by simp, o1⟩, o2⟩)
    (fun j hj b hb => by
      obtain rfl := List.mem_singleton.1 hj
      simp only [Gh.upd, get_cons_same] at hb ⊢
      simp [hb])
    (fun j hj o ho => by
      obtain rfl := List.mem_singleton.1 hj
      obtain ⟨_, h1, _⟩ := get_filtD ho
      rw [get_put_same] at h1
      injection h1 with h1
      subst h1
      have hHΦ : (G.upd [(j, (G.h j ++ (FA ++ (F1 ++ F2n ++ F3) ++ FB), G.h j))]).Φ j = G.h j ++ (FA ++ (F1 ++ F2n ++ F3) ++ FB) ∧ (G.upd [(j, (G.h j ++ (FA ++ (F1 ++ F2n ++ F3) ++ FB), G.h j))]).h j = G.h j := by simp only [Gh.upd, get_cons_same, and_self]
      refine ⟨css, _, hrow', r2, ?_, by simp only [if_true]; rw [hHΦ.1, hHΦ.2]⟩
      rw [hHΦ.2]
      show if app = true then RowOwn w' (G.φ j) _ _ _ ∧ _ else RowWeak w' (G.φ j) _ _ _ ∧ _
      rw [List.length_set]
      have hk2 : ∀ b ∈ G.h j, w'.heap[b]? = w.heap[b]? := fun b hb => hkeep b (by simp [hb])
      cases app with
      | true => simp only [if_true] at r3 ⊢; exact ⟨r3.1.keep (fun b hb => hk2 b (by rw [r3.2]; exact hb)), r3.2⟩
      | false =>
        simp only [Bool.false_eq_true, if_false] at r3 ⊢
        rcases r3.2 with h5 | ⟨h5, _⟩
        · exact ⟨r3.1.keep (fun b hb => hk2 b (by rw [h5]; exact hb)), .inl h5⟩
        · rw [h5] at hlt; simp at hlt)
  have hR1 : Rel w0 ⟨filtD safeAV [q.d1, q.d2] σ.env, filtD safeOb [] (Vm.put σ.objs id (.row true app sz (rows.set i (cs.take off ++ mT m' ++ cs.drop (off + ti.size))))), σ.next⟩ (G.upd [(id, (G.h id ++ (FA ++ (F1 ++ F2n ++ F3) ++ FB), G.h id))]) nt ((a.put (some q.d1) v).put (some q.d2) (a.eval q.y)) w' := by
    refine ⟨hM', fun k x hk => ?_, fun k x hk => hR.lt k x (get_filtD hk).2.1, by simp [Act.put, hR.size], fun j hj => hR.fresh j hj, fun j o ho => ?_, hR.defers⟩
    · obtain ⟨h1, h2, h3⟩ := get_filtD hk
      simp only [List.mem_cons, List.not_mem_nil, or_false, not_or] at h1
      rw [getD_put_other h1.2, getD_put_other h1.1]
      exact hsafe x _ h3 (hR.env k x h2)
    · have h1 := (get_filtD ho).2.1
      exact wf_put hR.wf (hR.wf id _ eo) j o h1
  exact hQ _ _ _ w' hK (hR1.put rfl hM' Pres.refl (by simp only [AV.rep]; exact ⟨[], hu, fun _ _ b hb => by simp at hb⟩) hR1.fresh hR1.wf hd3)

theorem cut_some : ∀ {l p t r : List Oper} {q : Fuse}, cut nt l = some (p, q, t, r) → l = p ++ (t ++ r) ∧ ∃ o rest, fuse nt o rest = some q ∧ t ++ r = o :: rest
  | [], p, t, r, q, h => by cases h
  | o :: rest, p, t, r, q, h => by
    rw [cut] at h
    split at h
    · rename_i q' hq
      simp only [Option.some.injEq, Prod.mk.injEq] at h
      obtain ⟨rfl, rfl, rfl, rfl⟩ := h
      exact ⟨by simp, o, rest, hq, by simp⟩
    · split at h
      · rename_i p' x hx
        simp only [Option.some.injEq, Prod.mk.injEq] at h
        obtain ⟨rfl, rfl⟩ := h
        obtain ⟨h1, h2⟩ := cut_some hx
        exact ⟨by rw [h1]; simp, h2⟩
      · cases h
theorem cut_t : ∀ {l p t r : List Oper} {q : Fuse}, cut nt l = some (p, q, t, r) → ∃ o rest, fuse nt o rest = some q ∧ t = o :: rest.take 2 ∧ r = rest.drop 2
  | [], p, t, r, q, h => by cases h
  | o :: rest, p, t, r, q, h => by
    rw [cut] at h
    split at h
    · rename_i q' hq
      simp only [Option.some.injEq, Prod.mk.injEq] at h
      obtain ⟨rfl, rfl, rfl, rfl⟩ := h
      exact ⟨o, rest, hq, rfl, rfl⟩
    · split at h
      · rename_i p' x hx
        simp only [Option.some.injEq, Prod.mk.injEq] at h
        obtain ⟨rfl, rfl⟩ := h
        exact cut_t hx
      · cases h

theorem evReg_sound (hE : TOk P E) {ops : Array Oper} {Q : Exit → Act → World → Prop} {K : St → Prop} {σ : St} {G : Gh} {a : Act} {w : World} (h : evReg P E nt ops K σ) (hR : Rel w0 σ G nt a w)
    (hQ : ∀ σ' G' a' w', K σ' → Rel w0 σ' G' nt a' w' → Q .normal a' w') : wpList P ops Q ops.toList a w := by
  have fin : ∀ {l : List Oper} {σ : St} {G : Gh} {a : Act} {w : World}, evOps P E nt true ops l K σ → Rel w0 σ G nt a w → wpList P ops Q l a w := fun {l} {σ} {G} {a} {w} h hR => by
    have := evOps_sound (tl := []) hE l h hR (fun σ' G' a' w' hk hR' => hQ σ' G' a' w' hk hR')
    rwa [List.append_nil] at this
  unfold evReg at h
  split at h
  · exact fin h hR
  · rename_i p q t r hc
    rw [(cut_some hc).1]
    refine evOps_sound hE p h hR (fun τ G' a' w' hk hR' => ?_)
    rcases hk with hk | hk
    · exact evOps_sound hE t hk hR' (fun τ' G'' a'' w'' hk' hR'' => fin hk' hR'')
    · obtain ⟨o, rest, hq, rfl, rfl⟩ := cut_t hc
      obtain ⟨ty1, p1, af1, ty2, p2, af2, ty3, p3, af3, at3, rest', rfl, rfl, hne, hyt, hd1, hd2, hd3⟩ := fuse_some hq
      exact evF_sound hE hne hyt hd1 hd2 hd3 hk hR' (fun τ' G'' a'' w'' hk' hR'' => fin hk' hR'')
end
end Go.Vm
