/-
  The plain law of the audit of signed answers: exactly the servers with a false answer are named, in order.
  Conditions: none.
-/
import Derived.Test.YtdbgmncapignoaaFnAs
namespace Go.Proofs.Ytdbgmncapignoaa
set_option maxHeartbeats 4000000
set_option maxRecDepth 20000
open Go.Vm Go.RowKit
attribute [local irreducible] FnAt MutAt InAt JAt CurAt FnE CurE RegAt
attribute [local irreducible] falseAns servKey
section
variable {m : Int} {d : DDatabase} {l : List DSignedAnswer}
theorem insS_mem {s y : Int} {xs : List Int} : y ∈ insS s xs ↔ y ∈ xs ∨ y = s := by
  rw [(insS_perm s xs).mem_iff, List.mem_append, List.mem_singleton]
theorem auS_up {n : Nat} {y : Int} (h : y ∈ auS m d l n) : y ∈ auS m d l (n + 1) := by
  unfold auS
  split
  · split
    · exact insS_mem.2 (Or.inl h)
    · exact h
  · exact h
theorem auS_has {i : Nat} (h : i < l.length) (hb : auB m d l[i] = true) : ∀ n, i < n → l[i].Server ∈ auS m d l n
  | 0, hn => absurd hn (Nat.not_lt_zero _)
  | n + 1, hn => by
    by_cases e : i < n
    · exact auS_up (auS_has h hb n e)
    · obtain rfl : i = n := by omega
      simp only [auS, List.getElem?_eq_getElem h, hb, Bool.true_and]
      split
      · exact insS_mem.2 (Or.inr rfl)
      · next e2 =>
        rw [Bool.not_eq_true, Bool.not_eq_false'] at e2
        exact hasI_iff.1 e2
theorem auS_from {y : Int} : ∀ n, y ∈ auS m d l n → ∃ k, ∃ hk : k < l.length, k < n ∧ l[k].Server = y ∧ auB m d l[k] = true
  | 0, h => by cases h
  | n + 1, h => by
    unfold auS at h
    split at h
    · next a e =>
      obtain ⟨hk, e1⟩ := List.getElem?_eq_some_iff.1 e
      split at h
      · next e2 =>
        rw [Bool.and_eq_true] at e2
        rcases insS_mem.1 h with h | h
        · obtain ⟨k, hk, h1, h2⟩ := auS_from n h
          exact ⟨k, hk, Nat.lt_succ_of_lt h1, h2⟩
        · exact ⟨n, hk, Nat.lt_succ_self n, by rw [e1]; exact h.symm, by rw [e1]; exact e2.1⟩
      · obtain ⟨k, hk, h1, h2⟩ := auS_from n h
        exact ⟨k, hk, Nat.lt_succ_of_lt h1, h2⟩
    · obtain ⟨k, hk, h1, h2⟩ := auS_from n h
      exact ⟨k, hk, Nat.lt_succ_of_lt h1, h2⟩
theorem insS_strict {s : Int} : ∀ {xs : List Int}, xs.Pairwise (· < ·) → s ∉ xs → (insS s xs).Pairwise (· < ·)
  | [], _, _ => List.pairwise_singleton _ _
  | x :: r, h, hs => by
    obtain ⟨h1, h2⟩ := List.pairwise_cons.1 h
    have h3 : s ≠ x := fun e => hs (e ▸ List.mem_cons_self)
    have h4 : s ∉ r := fun e => hs (List.mem_cons_of_mem _ e)
    unfold insS
    split
    · refine List.pairwise_cons.2 ⟨fun y hy => ?_, insS_strict h2 h4⟩
      rcases insS_mem.1 hy with hy | rfl
      · exact h1 y hy
      · assumption
    · refine List.pairwise_cons.2 ⟨fun y hy => ?_, h⟩
      rcases List.mem_cons.1 hy with rfl | hy
      · omega
      · have := h1 y hy; omega
theorem auS_strict : ∀ n, (auS m d l n).Pairwise (· < ·)
  | 0 => List.Pairwise.nil
  | n + 1 => by
    unfold auS
    split
    · split
      · next e2 =>
        rw [Bool.and_eq_true, Bool.not_eq_true'] at e2
        refine insS_strict (auS_strict n) fun h => ?_
        rw [hasI_iff.2 h] at e2
        exact absurd e2.2 (by decide)
      · exact auS_strict n
    · exact auS_strict n
theorem auS_lt {n i : Nat} (h : i + 1 < (auS m d l n).length) : (auS m d l n)[i]'(by omega) < (auS m d l n)[i + 1] :=
  (List.pairwise_iff_getElem.1 (auS_strict (m := m) (d := d) (l := l) n)) i (i + 1) (by omega) h (by omega)
end
end Go.Proofs.Ytdbgmncapignoaa
