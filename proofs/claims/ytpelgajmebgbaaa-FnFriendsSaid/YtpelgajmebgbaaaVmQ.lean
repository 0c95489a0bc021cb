/-
  A region whose order is drawn: in whatever order its operations are laid, it ends as in the order of the text.
  Conditions: the table of types fits the program ('TOk'); the program's orders are mixed.
-/
import Derived.Test.YtpelgajmebgbaaaVmO
import Derived.Orders
namespace Go.Vm
open Go.RowKit

/-! ### What the check says -/
inductive Reach (ops : Array Oper) : Nat → Nat → Prop
  | edge {i : Nat} {o : Oper} {e : Edge} : ops[i]? = some o → e ∈ o.after → Region.binds .any e = true → Reach ops i e.on
  | step {i k : Nat} {o : Oper} {e : Edge} : ops[i]? = some o → e ∈ o.after → Region.binds .any e = true → Reach ops e.on k → Reach ops i k

theorem memN_iff {d : Nat} : ∀ {l : List Nat}, memN d l = true ↔ d ∈ l
  | [] => by simp [memN]
  | x :: r => by
    cases h : Nat.beq x d with
    | true => have := Nat.eq_of_beq_eq_true h; subst this; simp [memN]
    | false =>
      have hne : d ≠ x := fun e => by subst e; simp at h
      simp [memN, h, memN_iff (l := r), hne]

theorem mask_bits {T : List Nat} {j : Nat} : ∀ {es : List Edge}, (mask T es).testBit j = true → ∃ e ∈ es, Region.binds .any e = true ∧ ∃ x, T[e.on]? = some x ∧ (x.testBit j = true ∨ j = e.on)
  | [], h => by simp [mask] at h
  | e :: r, h => by
    have rest : (mask T r).testBit j = true → ∃ e' ∈ e :: r, Region.binds .any e' = true ∧ ∃ x, T[e'.on]? = some x ∧ (x.testBit j = true ∨ j = e'.on) := fun h => by
      obtain ⟨e', h1, h2⟩ := mask_bits h
      exact ⟨e', by simp [h1], h2⟩
    cases hb : Region.binds .any e with
    | false => simp only [mask, hb, cond_false] at h; exact rest h
    | true =>
      simp only [mask, hb, cond_true] at h
      split at h
      · rename_i x hx
        rw [Nat.testBit_or, Nat.testBit_or, Bool.or_eq_true, Bool.or_eq_true] at h
        rcases h with h | h | h
        · exact rest h
        · exact ⟨e, by simp, hb, x, hx, .inl h⟩
        · refine ⟨e, by simp, hb, x, hx, .inr ?_⟩
          rw [Nat.shiftLeft_eq, Nat.one_mul, Nat.testBit_two_pow] at h
          simpa using Eq.symm (of_decide_eq_true h)
      · exact rest h

theorem masks_reach {ops : Array Oper} : ∀ (l : List Oper) (T : List Nat), (∀ i o, l[i]? = some o → ops[T.length + i]? = some o) → (∀ i x j, T[i]? = some x → x.testBit j = true → Reach ops i j) →
    ∀ i x j, (masks l T)[i]? = some x → x.testBit j = true → Reach ops i j
  | [], T, _, hT, i, x, j, h, hb => hT i x j h hb
  | o :: r, T, hl, hT, i, x, j, h, hb => by
    simp only [masks] at h
    refine masks_reach r (T ++ [mask T o.after.toList]) (fun k q hk => ?_) (fun k y m hk hm => ?_) i x j h hb
    · have := hl (k + 1) q (by simpa using hk)
      rw [List.length_append, List.length_singleton]
      rw [show T.length + 1 + k = T.length + (k + 1) by omega]
      exact this
    · rcases Nat.lt_or_ge k T.length with hlt | hge
      · rw [List.getElem?_append_left hlt] at hk
        exact hT k y m hk hm
      · rw [List.getElem?_append_right hge] at hk
        have hk0 : k - T.length = 0 := by
          have := (List.getElem?_eq_some_iff.1 hk).1
          simpa using this
        have hke : k = T.length := by omega
        subst hke
        simp at hk
        subst hk
        obtain ⟨e, h1, h2, z, h3, h4⟩ := mask_bits hm
        have ho : ops[T.length]? = some o := by simpa using hl 0 o (by simp)
        rcases h4 with h4 | rfl
        · exact .step ho (by simpa using h1) h2 (hT _ z m h3 h4)
        · exact .edge ho (by simpa using h1) h2

structure DrawOK (ops : Array Oper) : Prop where
  pair : ∀ (i j : Nat) (x y : Oper), j < i → ops[j]? = some x → ops[i]? = some y → (∀ d, x.dst = some d → y.dst ≠ some d) ∧ (conflict ops x y = true → Reach ops i j)
  self : ∀ (i : Nat) (y : Oper) (d : Nat), ops[i]? = some y → y.dst = some d → d ∉ y.looksAt ops
  back : ∀ (i : Nat) (y : Oper) (e : Edge), ops[i]? = some y → e ∈ y.after → Region.binds .any e = true → e.on < i

theorem pairsOK_spec {ops : Array Oper} {m : Nat} {y : Oper} : ∀ {l : List Oper} {j : Nat}, pairsOK ops m y j l = true → ∀ k x, l[k]? = some x → sameDst x.dst y.dst = false ∧ (conflict ops x y = true → m.testBit (j + k) = true)
  | [], j, _, k, x, h => by simp at h
  | z :: r, j, h, k, x, hk => by
    simp only [pairsOK, Bool.and_eq_true, Bool.or_eq_true, Bool.not_eq_true'] at h
    obtain ⟨⟨h1, h2⟩, h3⟩ := h
    cases k with
    | zero =>
      simp at hk
      subst hk
      exact ⟨h1, fun hc => by rcases h2 with h2 | h2 <;> simp_all⟩
    | succ k =>
      have := pairsOK_spec h3 k x (by simpa using hk)
      rw [show j + (k + 1) = j + 1 + k by omega]
      exact this

theorem drawOK_spec {ops : Array Oper} (h : drawOK ops = true) : DrawOK ops := by
  unfold drawOK at h
  have hreach := masks_reach (ops := ops) ops.toList [] (fun i o hi => by simpa using hi) (fun i x j hi => by simp at hi)
  generalize masks ops.toList [] = T at h hreach
  have key : ∀ (l pre : List Oper) (i : Nat), pre.length = i → pre ++ l = ops.toList → allOK ops T i pre l = true → ∀ k y, l[k]? = some y →
      (∃ m, T[i + k]? = some m ∧ ∀ j x, j < i + k → ops[j]? = some x → sameDst x.dst y.dst = false ∧ (conflict ops x y = true → m.testBit j = true)) ∧ dstIn y.dst (y.looksAt ops) = false ∧
        ∀ e ∈ y.after, Region.binds .any e = true → e.on < i + k := by
    intro l
    induction l with
    | nil => intro pre i _ _ _ k y hk; simp at hk
    | cons z r ih =>
      intro pre i hpl happ hok k y hk
      simp only [allOK, Bool.and_eq_true] at hok
      obtain ⟨⟨h1, h2, h3⟩, h4⟩ := hok
      cases k with
      | zero =>
        simp at hk
        subst hk
        refine ⟨?_, by simpa using h2, fun e he hb => ?_⟩
        · split at h1
          · rename_i m hm
            refine ⟨m, hm, fun j x hj hx => ?_⟩
            have hpj : pre[j]? = some x := by
              rw [← Array.getElem?_toList, ← happ, List.getElem?_append_left (by omega)] at hx
              exact hx
            simpa using pairsOK_spec h1 j x hpj
          · cases h1
        · have := List.all_eq_true.1 h3 e (by simpa using he)
          simp only [hb, Bool.not_true, Bool.false_or] at this
          have : e.on + 1 ≤ i := by simpa [Nat.blt] using this
          omega
      | succ k =>
        have := ih (pre ++ [z]) (i + 1) (by simp [hpl]) (by simpa using happ) h4 k y (by simpa using hk)
        rw [show i + (k + 1) = i + 1 + k by omega]
        exact this
  have k0 := fun k y hk => key ops.toList [] 0 rfl rfl h k y hk
  simp only [Nat.zero_add, Array.getElem?_toList] at k0
  refine ⟨fun i j x y hj hx hy => ?_, fun i y d hy hd => ?_, fun i y e hy he hb => (k0 i y hy).2.2 e he hb⟩
  · obtain ⟨m, hm, hall⟩ := (k0 i y hy).1
    obtain ⟨h1, h2⟩ := hall j x hj hx
    refine ⟨fun d hd hd' => ?_, fun hc => hreach i m j hm (h2 hc)⟩
    rw [hd, hd'] at h1
    simp [sameDst] at h1
  · have := (k0 i y hy).2.1
    rw [hd] at this
    simp only [dstIn] at this
    intro hmem
    rw [memN_iff.2 hmem] at this
    cases this
end Go.Vm
