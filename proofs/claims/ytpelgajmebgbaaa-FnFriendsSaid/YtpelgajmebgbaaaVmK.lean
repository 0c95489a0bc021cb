/-
  The operations that write: a store into a box or a row of the call's own, append. What moves, moves whole.
  Conditions: the table of types fits the program ('TOk').
-/
import Derived.Test.YtpelgajmebgbaaaVmJ
namespace Go.Vm
open Go.RowKit

def dels {α : Type} (l : List (Nat × α)) : List Nat → List (Nat × α)
  | [] => l
  | n :: r => dels (del l n) r

theorem get_dels {α : Type} : ∀ (ids : List Nat) (l : List (Nat × α)) (j : Nat), (j ∈ ids → get (dels l ids) j = none) ∧ (j ∉ ids → get (dels l ids) j = get l j)
  | [], l, j => by simp [dels]
  | n :: r, l, j => by
    have ih := get_dels r (del l n) j
    refine ⟨fun h => ?_, fun h => ?_⟩
    · by_cases hr : j ∈ r
      · exact ih.1 hr
      · rcases List.mem_cons.1 h with rfl | h
        · simp only [dels]; rw [ih.2 hr, get_del_same]
        · exact absurd h hr
    · simp only [List.mem_cons, not_or] at h
      simp only [dels]
      rw [ih.2 h.2, get_del_other _ _ _ h.1]

def isScal : T → Bool
  | .int .. | .bool _ | .str _ => true
  | _ => false

/-- A cell that moves into a row: its data, and the objects that it takes with it. With 'own' all that it holds must be the call's own. -/
def moveC (O : List (Nat × Ob)) (own : Bool) : C → Option (T × List Nat)
  | .nil => some (.lst [], [])
  | .t x => bif (!own || isScal x) then some (x, []) else none
  | .ref id => match get O id with
    | some (.row o _ _ rows) => bif (!own || o) then some (.lst rows, [id]) else none
    | _ => none
  | _ => none
def moveCs (O : List (Nat × Ob)) (own : Bool) : List C → Option (List T × List Nat)
  | [] => some ([], [])
  | x :: xs => match moveC O own x, moveCs O own xs with
    | some (y, i), some (ys, is) => some (y :: ys, i ++ is)
    | _, _ => none
def moveCss (O : List (Nat × Ob)) (own : Bool) : List (List C) → Option (List (List T) × List Nat)
  | [] => some ([], [])
  | x :: xs => match moveCs O own x, moveCss O own xs with
    | some (y, i), some (ys, is) => some (y :: ys, i ++ is)
    | _, _ => none

def notIn (n : Nat) : List Nat → Bool
  | [] => true
  | k :: r => !(Nat.beq k n) && notIn n r
def nodupB : List Nat → Bool
  | [] => true
  | k :: r => notIn k r && nodupB r
theorem notIn_iff {n : Nat} : ∀ {l : List Nat}, notIn n l = true → n ∉ l
  | [], _ => by simp
  | k :: r, h => by
    simp only [notIn, Bool.and_eq_true, Bool.not_eq_true'] at h
    have := notIn_iff h.2
    intro hm
    rcases List.mem_cons.1 hm with rfl | hm
    · simp at h
    · exact this hm
theorem nodupB_iff : ∀ {l : List Nat}, nodupB l = true → l.Nodup
  | [], _ => by simp
  | k :: r, h => by
    simp only [nodupB, Bool.and_eq_true] at h
    exact List.nodup_cons.2 ⟨notIn_iff h.1, nodupB_iff h.2⟩

/-- The rows that a slice value shows (not taken from their owner). -/
def spread (O : List (Nat × Ob)) : AV → Option (List (List T))
  | .c .nil => some []
  | .c (.t (.lst rows)) => some rows
  | .c (.ref id) => match get O id with
    | some (.row _ _ _ rows) => some rows
    | _ => none
  | .c (.view id sz lo hi) => match get O id with
    | some (.row _ _ sz' rows) => bif Nat.beq sz sz' then some ((rows.take hi).drop lo) else none
    | _ => none
  | _ => none

/-- What 'append' begins with: nothing, or a row of the call's own. -/
def baseOf (O : List (Nat × Ob)) : AV → Option (Bool × List (List T) × Option Nat × List Nat)
  | .c .nil => some (true, [], none, [])
  | .c .nil0 => some (true, [], none, [])
  | .c (.ref id) => match get O id with
    | some (.row own true sz rows) => some (own, rows, some sz, [id])
    | _ => none
  | _ => none

def opE (E : Nat → Option TI) (vl : Operand → Option AV) (op : Op) (σ : St) (K : AV → St → Prop) : Prop :=
  match op with
  | .store t x v => need (E t) fun ti => need (vl v) fun av => need (cellsOf av) fun ns => need (vl x) fun
    | .ptr id off => need (get σ.objs id) fun
      | .box cs => (ns.length = ti.size ∧ off + ns.length ≤ cs.length) ∧ K .junk { σ with objs := Vm.put σ.objs id (.box (cs.take off ++ ns ++ cs.drop (off + ns.length))) }
      | _ => False
    | .iptr id sz i off => need (get σ.objs id) fun
      | .row own app sz' rows => sz = sz' ∧ ∃ cs, rows[i]? = some cs ∧ (ns.length = ti.size ∧ off + ns.length ≤ cs.length) ∧ Nat.ble 1 ti.size = true ∧
        need (moveCs σ.objs own ns) fun tm => nodupB (id :: tm.2) = true ∧
          K .junk { σ with objs := Vm.put (dels σ.objs tm.2) id (.row own app sz (rows.set i (cs.take off ++ tm.1 ++ cs.drop (off + ns.length)))) }
      | _ => False
    | _ => False
  | .call { callee := .builtin .append, args, argTypes } => match args.toList, argTypes.toList with
    | [x, y], [t, t'] => t = t' ∧ need (E t) fun ti => match ti.k with
      | .sl e => need (E e) fun te => need (vl x) fun vx => need (vl y) fun vy => need (baseOf σ.objs vx) fun b => (b.2.2.1 = none ∨ b.2.2.1 = some te.size) ∧
        match vy with
        | .c (.ref j) => need (get σ.objs j) fun
          | .tmp sz crows => need (moveCss σ.objs b.1 crows) fun tm => (nodupB (b.2.2.2 ++ j :: tm.2) = true ∧ sz = te.size) ∧
              ((b.2.1.length + tm.1.length) * te.bytes ≤ 140737488355328 ∧ b.2.1.length + tm.1.length ≤ 140737488355328) ∧
              K (.c (.ref σ.next)) ⟨σ.env, (σ.next, .row b.1 true te.size (b.2.1 ++ tm.1)) :: dels σ.objs (b.2.2.2 ++ j :: tm.2), σ.next + 1⟩
          | .row _ _ sz rows => ∃ sc : Bool, (sc = true → ∀ r ∈ rows, ∀ x ∈ r, isScal x = true) ∧ (notIn j b.2.2.2 = true ∧ sz = te.size) ∧
              ((b.2.1.length + rows.length) * te.bytes ≤ 140737488355328 ∧ b.2.1.length + rows.length ≤ 140737488355328) ∧
              K (.c (.ref σ.next)) ⟨σ.env, (σ.next, .row (b.1 && sc) true te.size (b.2.1 ++ rows)) :: dels σ.objs b.2.2.2, σ.next + 1⟩
          | _ => False
        | _ => need (spread σ.objs vy) fun rows => ∃ sc : Bool, (sc = true → ∀ r ∈ rows, ∀ x ∈ r, isScal x = true) ∧ (∀ r ∈ rows, r.length = te.size) ∧
              ((b.2.1.length + rows.length) * te.bytes ≤ 140737488355328 ∧ b.2.1.length + rows.length ≤ 140737488355328) ∧
              K (.c (.ref σ.next)) ⟨σ.env, (σ.next, .row (b.1 && sc) true te.size (b.2.1 ++ rows)) :: dels σ.objs b.2.2.2, σ.next + 1⟩
      | _ => False
    | _, _ => False
  | _ => False

def GoesE (P : Program) (vl : Operand → Option AV) (o : Oper) (σ σ' : St) (av : AV) : Prop :=
  ∀ (w0 : Base) G w a (Kc : Act → World → Prop) (Q : Exit → Act → World → Prop), Mem w0 σ.objs G w → OpsRep vl o.op σ.objs G w a → (∀ j, G.A j → j < σ.next) →
    (∀ G' v w', Mem w0 σ'.objs G' w' → Pres σ.objs G w σ'.objs G' w' → av.rep σ'.objs G' w' v → (∀ j, G'.A j → j < σ'.next) → Kc (a.put o.dst v) w') → o.wp P a w Kc Q

/-! ### The ghost of a step that changes or lays one object and takes others in -/
def Gh.set (G : Gh) (m : Nat) (v : Value) (F : List Nat) : Gh where
  A := fun j => G.A j ∨ j = m
  φ := fun j => if j = m then v else G.φ j
  Φ := fun j => if j = m then F else G.Φ j
  h := fun j => if j = m then hd v else G.h j
  b := G.b
  pin := G.pin

section
variable {P : Program} {E : Nat → Option TI} {O O' : List (Nat × Ob)} {G : Gh} {w w' : World} {w0 : Base}

theorem Mem.move (hM : Mem w0 O G w) (m : Nat) (v : Value) (F : List Nat) (S : List Nat)
    (hO : ∀ j, j ≠ m → j ∉ S → get O' j = get O j) (hOS : ∀ j, j ≠ m → j ∈ S → get O' j = none)
    (hm : G.A m → v = G.φ m) (hos : w'.os = w.os) (htape : w'.tape = w.tape) (hout : w'.output = w.output) (hsize : w.heap.size ≤ w'.heap.size)
    (hheap : ∀ b, b < w.heap.size → (∀ i, Lv O G i → (i ∈ S ∨ i = m) → b ∉ G.h i) → w'.heap[b]? = w.heap[b]?)
    (hF : F.Nodup) (hFlo : ∀ b ∈ F, ((w.heap.size ≤ b) ∨ ∃ i, Lv O G i ∧ (i ∈ S ∨ i = m) ∧ b ∈ G.Φ i) ∧ ∃ arr e, w'.heap[b]? = some (.cells arr e (0, 0)))
    (hh : ∀ b ∈ hd v, b ∈ F ∧ (w.heap.size ≤ b ∨ ∃ i, Lv O G i ∧ b ∈ G.h i))
    (hr : ∀ o, get O' m = some o → Pres O G w O' (G.set m v F) w' → o.rep O' (G.set m v F) w' m) :
    Mem w0 O' (G.set m v F) w' ∧ Pres O G w O' (G.set m v F) w' := by
  refine Mem.step hM (fun j => Lv O G j ∧ j ∉ S ∧ j ≠ m) (fun j => j = m) (fun id h => ⟨.inl h, ?_⟩) ⟨rfl, rfl⟩ (fun id h => ⟨h.1, hO id h.2.2 h.2.1, ?_⟩) (fun id h => ?_)
    hos htape hout hsize (fun b hb hn => hheap b hb (fun i hi hs => hn i hi (fun hk => ?_))) (fun id hx => ?_) (fun i j hi hj hne => ?_) (fun id hx b hb => ?_) (fun id hx b hb => ?_) (fun id o hx _ hg p => ?_)
  · by_cases e : id = m
    · subst e; simp only [Gh.set, if_pos]; exact hm h
    · simp only [Gh.set, if_neg e]
  · simp only [Gh.set, if_neg h.2.2, and_self]
  · by_cases e : id = m
    · exact .inr e
    · by_cases hs : id ∈ S
      · obtain ⟨_, o, ho⟩ := h
        rw [hOS id e hs] at ho
        cases ho
      · obtain ⟨ha, o, ho⟩ := h
        rw [hO id e hs] at ho
        rcases ha with ha | ha
        · exact .inl ⟨⟨ha, o, ho⟩, hs, e⟩
        · exact absurd ha e
  · rcases hs with hs | hs
    · exact hk.2.1 hs
    · exact hk.2.2 hs
  · subst hx; simp only [Gh.set, if_pos]; exact hF
  · exact absurd (hi.trans hj.symm) hne
  · subst hx
    simp only [Gh.set, if_pos] at hb
    obtain ⟨h1, h2⟩ := hFlo b hb
    refine ⟨h1.imp (fun h => h) (fun ⟨i, hi, hs, hbi⟩ => ⟨i, hi, fun hk => ?_, hbi⟩), h2⟩
    rcases hs with hs | hs
    · exact hk.2.1 hs
    · exact hk.2.2 hs
  · subst hx
    simp only [Gh.set, if_pos] at hb ⊢
    exact hh b hb
  · subst hx
    exact hr o hg p

/-! ### Rows and cells taken apart -/
theorem repCells_split : ∀ {xs : List T} {vs : List Value} {F : List Nat} (off len : Nat), repCells w xs vs F → ∃ F1 F2 F3, F = F1 ++ F2 ++ F3 ∧ repCells w (xs.take off) (vs.take off) F1 ∧
    repCells w ((xs.drop off).take len) ((vs.drop off).take len) F2 ∧ repCells w (xs.drop (off + len)) (vs.drop (off + len)) F3 := by
  have cut : ∀ {xs : List T} {vs : List Value} {F : List Nat} (n : Nat), repCells w xs vs F → ∃ F1 F2, F = F1 ++ F2 ∧ repCells w (xs.take n) (vs.take n) F1 ∧ repCells w (xs.drop n) (vs.drop n) F2 := by
    intro xs
    induction xs with
    | nil => intro vs F n h; simp only [repCells] at h; obtain ⟨rfl, rfl⟩ := h; exact ⟨[], [], rfl, by simp [repCells], by simp [repCells]⟩
    | cons x xs ih =>
      intro vs F n h
      cases n with
      | zero => exact ⟨[], F, rfl, by simp [repCells], by simpa using h⟩
      | succ n =>
        simp only [repCells] at h
        obtain ⟨v, cs', F1, F2, rfl, rfl, h3, h4⟩ := h
        obtain ⟨F3, F4, rfl, h5, h6⟩ := ih n h4
        exact ⟨F1 ++ F3, F4, by simp, by simp only [List.take_succ_cons, repCells]; exact ⟨v, _, F1, F3, rfl, rfl, h3, h5⟩, by simpa using h6⟩
  intro xs vs F off len h
  obtain ⟨F1, F4, rfl, h1, h2⟩ := cut off h
  obtain ⟨F2, F3, rfl, h3, h4⟩ := cut len h2
  rw [List.drop_drop, List.drop_drop] at h4
  exact ⟨F1, F2, F3, by simp, h1, h3, h4⟩

theorem repRows_set : ∀ {rs : List (List T)} {css : List (List Value)} {F : List Nat} {i : Nat} {r : List T}, repRows w rs css F → rs[i]? = some r →
    ∃ FA Fi FB vs, F = FA ++ Fi ++ FB ∧ css[i]? = some vs ∧ repCells w r vs Fi ∧ ∀ (r' : List T) (vs' : List Value) (Fi' : List Nat) (w' : World), repCells w' r' vs' Fi' → (∀ b ∈ FA ++ FB, w'.heap[b]? = w.heap[b]?) →
      repRows w' (rs.set i r') (css.set i vs') (FA ++ Fi' ++ FB)
  | [], css, F, i, r, h, hi => by simp at hi
  | r0 :: rs, css, F, i, r, h, hi => by
    simp only [repRows] at h
    obtain ⟨cs, css', F1, F2, rfl, rfl, h3, h4⟩ := h
    cases i with
    | zero =>
      simp at hi
      subst hi
      refine ⟨[], F1, F2, cs, by simp, by simp, h3, fun r' vs' Fi' w' hr hk => ?_⟩
      simp only [List.set_cons_zero, repRows, List.nil_append]
      exact ⟨vs', css', Fi', F2, rfl, rfl, hr, repRows_keep _ _ _ h4 (fun b hb => hk b (by simp [hb]))⟩
    | succ i =>
      obtain ⟨FA, Fi, FB, vs, rfl, h5, h6, h7⟩ := repRows_set h4 (by simpa using hi)
      refine ⟨F1 ++ FA, Fi, FB, vs, by simp, by simpa using h5, h6, fun r' vs' Fi' w' hr hk => ?_⟩
      simp only [List.set_cons_succ, repRows]
      exact ⟨cs, _, F1, FA ++ Fi' ++ FB, rfl, by simp, repCells_keep _ _ _ h3 (fun b hb => hk b (by simp [hb])), h7 r' vs' Fi' w' hr (fun b hb => hk b (by simp at hb ⊢; rcases hb with hb | hb <;> simp [hb]))⟩

/-! ### What moves -/
theorem moveC_rep (hM : Mem w0 O G w) {own : Bool} {x : C} {y : T} {ids : List Nat} {v : Value} (h : moveC O own x = some (y, ids)) (hr : x.rep O G w v) :
    ∃ F, y.rep w v F ∧ (∀ i ∈ ids, Lv O G i) ∧ (own = true → F.Nodup ∧ ∀ b ∈ F, ∃ i, i ∈ ids ∧ b ∈ G.Φ i) ∧
      (∀ b ∈ F, ∀ j, Lv O G j → j ∉ ids → b ∉ G.h j) := by
  cases x with
  | nil =>
    simp only [moveC, Option.some.injEq, Prod.mk.injEq] at h
    obtain ⟨rfl, rfl⟩ := h
    have hr' : v = .slice none 0 0 := hr
    subst hr'
    exact ⟨[], by simp only [T.rep]; exact ⟨none, 0, rfl, Nat.le_refl _, .inl ⟨trivial, trivial⟩⟩, by simp, fun _ => by simp, by simp⟩
  | nil0 => simp [moveC] at h
  | anc x => simp [moveC] at h
  | t x =>
    simp only [moveC] at h
    cases hb : (!own || isScal x) with
    | false => simp [hb] at h
    | true =>
      simp only [hb, cond_true, Option.some.injEq, Prod.mk.injEq] at h
      obtain ⟨rfl, rfl⟩ := h
      obtain ⟨F, h1, h2⟩ := hr
      refine ⟨F, h1, by simp, fun ho => ?_, fun b hbb j hj _ => h2 j hj b hbb⟩
      subst ho
      simp only [Bool.not_true, Bool.false_or] at hb
      have : F = [] := by cases x <;> simp [isScal] at hb <;> exact h1.2
      subst this
      simp
  | ref id =>
    simp only [moveC] at h
    split at h
    · rename_i o app sz rows hg
      cases hb : (!own || o) with
      | false => simp [hb] at h
      | true =>
        simp only [hb, cond_true, Option.some.injEq, Prod.mk.injEq] at h
        obtain ⟨rfl, rfl⟩ := h
        obtain ⟨h1, h2, _⟩ := hr
        subst h2
        have hob := hM.obs id _ h1 hg
        obtain ⟨css, F', h3, h4, h5, h6⟩ := hob
        have hweak : RowWeak w (G.φ id) rows.length sz css := by
          cases app with
          | true => simp only [if_true] at h5; exact h5.1.weak h4
          | false => simp only [Bool.false_eq_true, if_false] at h5; exact h5.1
        obtain ⟨F, h7, h8'⟩ := hweak.rep h3 h4
        have h8 : F = G.h id ++ F' ∨ F = [] := by
          have hh : G.h id = hd (G.φ id) ∨ (rows = [] ∧ G.h id = []) := by
            cases app with
            | true => simp only [if_true] at h5; exact .inl h5.2
            | false => simp only [Bool.false_eq_true, if_false] at h5; exact h5.2
          rcases hh with hh | ⟨hr0, hh⟩
          · rw [hh]; exact h8'
          · subst hr0
            simp only [T.rep] at h7
            obtain ⟨_, _, _, _, ⟨_, h9⟩ | ⟨_, _, _, _, h9, _⟩⟩ := h7
            · exact .inr h9
            · exact absurd rfl h9
        have hlv : Lv O G id := ⟨h1, _, hg⟩
        refine ⟨F, h7, by simpa using hlv, fun ho => ?_, fun b hbb j hj hne => ?_⟩
        · subst ho
          simp only [Bool.not_true, Bool.false_or] at hb
          subst hb
          simp only [if_true] at h6
          have hnd := hM.nodup id hlv
          rcases h8 with rfl | rfl
          · rw [← h6]; exact ⟨hnd, fun b hb => ⟨id, by simp, hb⟩⟩
          · simp
        · have hne' : j ≠ id := by simpa using hne
          rcases h8 with rfl | rfl
          · intro hbj
            rcases List.mem_append.1 hbb with hb1 | hb1
            · exact hM.disj id j hlv hj (fun e => hne' e.symm) b (hM.hds id hlv b hb1) (hM.hds j hj b hbj)
            · cases o with
              | true =>
                simp only [if_true] at h6
                exact hM.disj id j hlv hj (fun e => hne' e.symm) b (by rw [h6]; simp [hb1]) (hM.hds j hj b hbj)
              | false =>
                simp only [Bool.false_eq_true, if_false] at h6
                exact h6.2 j hj b hb1 hbj
          · simp at hbb
    · cases h
  | fn f ids => simp [moveC] at h
  | view id sz lo hi => simp [moveC] at h

theorem moveCs_rep (hM : Mem w0 O G w) {own : Bool} : ∀ {xs : List C} {ys : List T} {ids : List Nat} {vs : List Value}, moveCs O own xs = some (ys, ids) → repCs O G w xs vs → ids.Nodup →
    ∃ F, repCells w ys vs F ∧ (∀ i ∈ ids, Lv O G i) ∧ (own = true → F.Nodup ∧ ∀ b ∈ F, ∃ i, i ∈ ids ∧ b ∈ G.Φ i) ∧ (∀ b ∈ F, ∀ j, Lv O G j → j ∉ ids → b ∉ G.h j)
  | [], ys, ids, vs, h, hr, _ => by
    simp only [moveCs, Option.some.injEq, Prod.mk.injEq] at h
    obtain ⟨rfl, rfl⟩ := h
    exact ⟨[], by simp only [repCells]; exact ⟨hr, trivial⟩, by simp, fun _ => by simp, by simp⟩
  | x :: xs, ys, ids, vs, h, ⟨v, vs', hv, h2, h3⟩, hnd => by
    simp only [moveCs] at h
    split at h
    · rename_i y i ys' is e1 e2
      simp only [Option.some.injEq, Prod.mk.injEq] at h
      obtain ⟨rfl, rfl⟩ := h
      subst hv
      obtain ⟨hn1, hn2, hn3⟩ := List.nodup_append.1 hnd
      obtain ⟨F1, a1, a2, a3, a4⟩ := moveC_rep hM e1 h2
      obtain ⟨F2, b1, b2, b3, b4⟩ := moveCs_rep hM e2 h3 hn2
      refine ⟨F1 ++ F2, by simp only [repCells]; exact ⟨v, vs', F1, F2, rfl, rfl, a1, b1⟩, fun j hj => ?_, fun ho => ⟨?_, fun b hb => ?_⟩, fun b hb j hj hni => ?_⟩
      · rcases List.mem_append.1 hj with hj | hj
        · exact a2 j hj
        · exact b2 j hj
      · refine List.nodup_append.2 ⟨(a3 ho).1, (b3 ho).1, fun b hb b' hb' e => ?_⟩
        subst e
        obtain ⟨i1, hi1, hbi1⟩ := (a3 ho).2 b hb
        obtain ⟨i2, hi2, hbi2⟩ := (b3 ho).2 b hb'
        exact hM.disj i1 i2 (a2 i1 hi1) (b2 i2 hi2) (hn3 i1 hi1 i2 hi2) b hbi1 hbi2
      · rcases List.mem_append.1 hb with hb | hb
        · obtain ⟨i1, hi1, hbi1⟩ := (a3 ho).2 b hb
          exact ⟨i1, by simp [hi1], hbi1⟩
        · obtain ⟨i1, hi1, hbi1⟩ := (b3 ho).2 b hb
          exact ⟨i1, by simp [hi1], hbi1⟩
      · simp only [List.mem_append, not_or] at hni
        rcases List.mem_append.1 hb with hb | hb
        · exact a4 b hb j hj hni.1
        · exact b4 b hb j hj hni.2
    · cases h

theorem moveCss_rep (hM : Mem w0 O G w) {own : Bool} : ∀ {xs : List (List C)} {ys : List (List T)} {ids : List Nat} {vs : List (List Value)}, moveCss O own xs = some (ys, ids) → repCss O G w xs vs → ids.Nodup →
    ∃ F, repRows w ys vs F ∧ (∀ i ∈ ids, Lv O G i) ∧ (own = true → F.Nodup ∧ ∀ b ∈ F, ∃ i, i ∈ ids ∧ b ∈ G.Φ i) ∧ (∀ b ∈ F, ∀ j, Lv O G j → j ∉ ids → b ∉ G.h j)
  | [], ys, ids, vs, h, hr, _ => by
    simp only [moveCss, Option.some.injEq, Prod.mk.injEq] at h
    obtain ⟨rfl, rfl⟩ := h
    exact ⟨[], by simp only [repRows]; exact ⟨hr, trivial⟩, by simp, fun _ => by simp, by simp⟩
  | x :: xs, ys, ids, vs, h, ⟨v, vs', hv, h2, h3⟩, hnd => by
    simp only [moveCss] at h
    split at h
    · rename_i y i ys' is e1 e2
      simp only [Option.some.injEq, Prod.mk.injEq] at h
      obtain ⟨rfl, rfl⟩ := h
      subst hv
      obtain ⟨hn1, hn2, hn3⟩ := List.nodup_append.1 hnd
      obtain ⟨F1, a1, a2, a3, a4⟩ := moveCs_rep hM e1 h2 hn1
      obtain ⟨F2, b1, b2, b3, b4⟩ := moveCss_rep hM e2 h3 hn2
      refine ⟨F1 ++ F2, by simp only [repRows]; exact ⟨v, vs', F1, F2, rfl, rfl, a1, b1⟩, fun j hj => ?_, fun ho => ⟨?_, fun b hb => ?_⟩, fun b hb j hj hni => ?_⟩
      · rcases List.mem_append.1 hj with hj | hj
        · exact a2 j hj
        · exact b2 j hj
      · refine List.nodup_append.2 ⟨(a3 ho).1, (b3 ho).1, fun b hb b' hb' e => ?_⟩
        subst e
        obtain ⟨i1, hi1, hbi1⟩ := (a3 ho).2 b hb
        obtain ⟨i2, hi2, hbi2⟩ := (b3 ho).2 b hb'
        exact hM.disj i1 i2 (a2 i1 hi1) (b2 i2 hi2) (hn3 i1 hi1 i2 hi2) b hbi1 hbi2
      · rcases List.mem_append.1 hb with hb | hb
        · obtain ⟨i1, hi1, hbi1⟩ := (a3 ho).2 b hb
          exact ⟨i1, by simp [hi1], hbi1⟩
        · obtain ⟨i1, hi1, hbi1⟩ := (b3 ho).2 b hb
          exact ⟨i1, by simp [hi1], hbi1⟩
      · simp only [List.mem_append, not_or] at hni
        rcases List.mem_append.1 hb with hb | hb
        · exact a4 b hb j hj hni.1
        · exact b4 b hb j hj hni.2
    · cases h
theorem moveCss_length {own : Bool} : ∀ {xs : List (List C)} {ys : List (List T)} {ids : List Nat}, moveCss O own xs = some (ys, ids) → ys.length = xs.length
  | [], ys, ids, h => by simp only [moveCss, Option.some.injEq, Prod.mk.injEq] at h; simp [← h.1]
  | x :: xs, ys, ids, h => by
    simp only [moveCss] at h
    split at h
    · rename_i y i ys' is e1 e2
      simp only [Option.some.injEq, Prod.mk.injEq] at h
      simp [← h.1, moveCss_length e2]
    · cases h
end
end Go.Vm
