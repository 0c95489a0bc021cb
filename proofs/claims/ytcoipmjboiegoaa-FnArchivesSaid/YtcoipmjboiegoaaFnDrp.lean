/-
  Plain law: a round that was added to an archive.
  Conditions: none.
-/
import Derived.Test.YtcoipmjboiegoaaFnG
namespace Go.Proofs.Ytcoipmjboiegoaa
set_option maxHeartbeats 4000000
set_option maxRecDepth 20000
open Go.Vm Go.RowKit
attribute [local irreducible] FnAt MutAt InAt JAt CurAt
theorem addRounds_form (a : DArchive) (r : Int) (d : DDatabase) : ∃ k, k ≤ a.Rounds.length ∧ k ≤ 1 ∧ (k = 1 → 8 ≤ a.Rounds.length) ∧ (k = 0 → a.Rounds.length < 8) ∧ addRounds a r d = a.Rounds.drop k ++ [⟨r, d⟩] := by
  unfold addRounds withRound
  split
  · rename_i h
    simp only [List.length_append, List.length_cons, List.length_nil] at h
    exact ⟨1, by omega, by omega, by omega, by omega, by rw [List.drop_append_of_le_length (by omega)]⟩
  · rename_i h
    simp only [List.length_append, List.length_cons, List.length_nil] at h
    exact ⟨0, by omega, by omega, by omega, by omega, by rw [List.drop_zero]⟩
structure AddFacts (a : DArchive) (r : Int) (d : DDatabase) : Prop where
  rok : ∀ j, j < a.Rounds.length → roundOk a.Rows a.Rounds j = true
  rows : inR a.Rows 1 64 = true
  len : a.Rounds.length ≤ 8
  r0 : inR r 0 100000 = true
  last : lastRound a < r
  dok : dbOk d = true
  dl : (d.Rows.length : Int) = a.Rows
theorem addFacts {a : DArchive} {r : Int} {d : DDatabase} (h : addOk a r d = true) : AddFacts a r d := by
  simp only [addOk, archOk, Bool.and_eq_true, decide_eq_true_eq] at h
  obtain ⟨⟨⟨⟨⟨⟨h1, h2⟩, h3⟩, h4⟩, h5⟩, h6⟩, h7⟩ := h
  exact ⟨fun j hj => (allN_iff _ _).1 h1 j (Nat.zero_le _) (by omega), h2, by omega, h4, h5, h6, h7⟩
theorem round_parts {rows : Int} {l : List DArchivedRound} {i : Nat} (h : i < l.length) (hr : roundOk rows l i = true) :
    (0 ≤ l[i].Round ∧ l[i].Round ≤ 100000) ∧ (0 < i → (l[i - 1]'(by omega)).Round < l[i].Round) ∧ dbOk l[i].Database = true ∧ (l[i].Database.Rows.length : Int) = rows := by
  rw [roundOk_eq rows l h] at hr
  simp only [Bool.and_eq_true, Bool.or_eq_true, decide_eq_true_eq] at hr
  obtain ⟨⟨⟨h1, h2⟩, h3⟩, h4⟩ := hr
  exact ⟨inR_iff.1 h1, fun hi => h2.resolve_left (by omega), h3, h4⟩
theorem rounds_le {rows : Int} {l : List DArchivedRound} (hr : ∀ j, j < l.length → roundOk rows l j = true) {i : Nat} : ∀ (k : Nat) (h : i + k < l.length), l[i].Round ≤ l[i + k].Round
  | 0, h => Int.le_refl _
  | k + 1, h => by
    have h1 := rounds_le (i := i) hr k (by omega)
    have h2 := (round_parts (i := i + (k + 1)) h (hr _ h)).2.1 (by omega)
    have h3 : (l[i + (k + 1) - 1]'(by omega)).Round = l[i + k].Round := rfl
    omega
theorem rounds_lt {a : DArchive} {r : Int} {d : DDatabase} (f : AddFacts a r d) {x : DArchivedRound} (hx : x ∈ a.Rounds) : 0 ≤ x.Round ∧ x.Round < r := by
  obtain ⟨i, hi, rfl⟩ := List.getElem_of_mem hx
  have h1 := (round_parts hi (f.rok i hi)).1
  have h2 := rounds_le f.rok (i := i) (a.Rounds.length - 1 - i) (by omega)
  have h3 := f.last
  unfold lastRound at h3
  rw [dif_pos (by omega)] at h3
  have e : i + (a.Rounds.length - 1 - i) = a.Rounds.length - 1 := by omega
  simp only [e] at h2
  omega
theorem drop_mem {a : DArchive} {k : Nat} {x : DArchivedRound} (h : x ∈ a.Rounds.drop k) : x ∈ a.Rounds := List.mem_of_mem_drop h
theorem add_last {a : DArchive} {r : Int} {d : DDatabase} (h : addOk a r d = true) : lastRound (addRound a r d) = r := by
  obtain ⟨k, _, _, _, _, hk⟩ := addRounds_form a r d
  unfold addRound
  rw [if_pos h]
  unfold lastRound
  simp only [hk]
  rw [dif_pos (by simp)]
  simp
theorem add_again {a : DArchive} {r : Int} {d e : DDatabase} (h : addOk a r d = true) : addOk (addRound a r d) r e = false := by
  unfold addOk
  rw [add_last h, decide_eq_false (Int.lt_irrefl r)]
  simp
theorem add_len {a : DArchive} {r : Int} {d : DDatabase} (h : addOk a r d = true) : ((addRound a r d).Rounds.length : Int) = if ((a.Rounds.length : Int) + 1) < 8 then (a.Rounds.length : Int) + 1 else 8 := by
  obtain ⟨k, h1, h2, h3, h4, hk⟩ := addRounds_form a r d
  have hl := (addFacts h).len
  unfold addRound
  rw [if_pos h]
  show ((addRounds a r d).length : Int) = _
  rw [hk]
  simp only [List.length_append, List.length_drop, List.length_cons, List.length_nil]
  split <;> omega
theorem add_since0 {a : DArchive} {r : Int} {d : DDatabase} (h : addOk a r d = true) : (roundsSince (addRound a r d).Rounds 0).length = (addRound a r d).Rounds.length := by
  have f := addFacts h
  have hr := inR_iff.1 f.r0
  obtain ⟨k, h1, h2, h3, h4, hk⟩ := addRounds_form a r d
  unfold addRound
  rw [if_pos h]
  show (roundsSince (addRounds a r d) 0).length = (addRounds a r d).length
  unfold roundsSince
  rw [List.length_map, List.filter_eq_self.2 (fun x hx => ?_)]
  rw [hk] at hx
  rw [decide_eq_true_eq]
  rcases List.mem_append.1 hx with hx | hx
  · exact (rounds_lt f (drop_mem hx)).1
  · rw [List.mem_singleton.1 hx]; exact hr.1
theorem add_since {a : DArchive} {r : Int} {d : DDatabase} (h : addOk a r d = true) : (roundsSince (addRound a r d).Rounds r).length = 1 := by
  have f := addFacts h
  obtain ⟨k, h1, h2, h3, h4, hk⟩ := addRounds_form a r d
  unfold addRound
  rw [if_pos h]
  show (roundsSince (addRounds a r d) r).length = 1
  unfold roundsSince
  rw [hk, List.length_map, List.filter_append, List.filter_eq_nil_iff.2 (fun x hx => by have := rounds_lt f (drop_mem hx); rw [decide_eq_true_eq]; omega)]
  simp
theorem add_ok {a : DArchive} {r : Int} {d : DDatabase} (h : addOk a r d = true) : archOk (addRound a r d) = true := by
  have f := addFacts h
  have hlen := add_len h
  obtain ⟨k, h1, h2, h3, h4, hk⟩ := addRounds_form a r d
  have hx : (addRound a r d).Rounds = a.Rounds.drop k ++ [⟨r, d⟩] := by unfold addRound; rw [if_pos h]; exact hk
  have hrw : (addRound a r d).Rows = a.Rows := by unfold addRound; rw [if_pos h]
  simp only [archOk, Bool.and_eq_true, decide_eq_true_eq, hrw]
  refine ⟨⟨(allN_iff _ _).2 fun j _ hj => ?_, f.rows⟩, by rw [hlen]; split <;> omega⟩
  rw [Nat.zero_add] at hj
  rw [roundOk_eq _ _ hj]
  simp only [Bool.and_eq_true, Bool.or_eq_true, decide_eq_true_eq]
  generalize (addRound a r d).Rounds = l at *
  subst hx
  simp only [List.length_append, List.length_drop, List.length_cons, List.length_nil] at hj
  by_cases hj2 : j < a.Rounds.length - k
  · have e : (a.Rounds.drop k ++ [(⟨r, d⟩ : DArchivedRound)])[j]'(by simp; omega) = a.Rounds[k + j]'(by omega) := by
      rw [List.getElem_append_left (by simp; omega), List.getElem_drop]
    rw [e]
    obtain ⟨p1, p2, p3, p4⟩ := round_parts (i := k + j) (by omega) (f.rok (k + j) (by omega))
    refine ⟨⟨⟨inR_iff.2 p1, ?_⟩, p3⟩, p4⟩
    by_cases hj0 : j = 0
    · exact .inl hj0
    · refine .inr ?_
      have e2 : (a.Rounds.drop k ++ [(⟨r, d⟩ : DArchivedRound)])[j - 1]'(by simp; omega) = a.Rounds[k + j - 1]'(by omega) := by
        rw [List.getElem_append_left (by simp; omega), List.getElem_drop]
        congr 1
        omega
      rw [e2]
      exact p2 (by omega)
  · have hjl : j = a.Rounds.length - k := by omega
    subst hjl
    have e : (a.Rounds.drop k ++ [(⟨r, d⟩ : DArchivedRound)])[a.Rounds.length - k]'(by simp) = ⟨r, d⟩ := by
      rw [List.getElem_append_right (by simp)]
      simp
    rw [e]
    refine ⟨⟨⟨f.r0, ?_⟩, f.dok⟩, f.dl⟩
    by_cases hj0 : a.Rounds.length - k = 0
    · exact .inl hj0
    · refine .inr ?_
      rw [List.getElem_append_left (by simp; omega), List.getElem_drop]
      exact (rounds_lt f (List.getElem_mem _)).2
theorem firstP_app {α : Type} {p : α → Bool} {x : α} (hx : p x = true) : ∀ (xs : List α), (∀ y ∈ xs, p y = false) → firstP p (xs ++ [x]) = some x
  | [], _ => by simp [firstP, hx]
  | y :: ys, h => by
    have h1 := h y (by simp)
    simp only [List.cons_append, firstP, h1, Bool.false_eq_true, if_false]
    exact firstP_app hx ys fun z hz => h z (by simp [hz])
theorem add_find {a : DArchive} {r : Int} {d : DDatabase} (h : addOk a r d = true) : archFind (addRound a r d).Rounds r = some ⟨r, d⟩ := by
  have f := addFacts h
  obtain ⟨k, h1, h2, h3, h4, hk⟩ := addRounds_form a r d
  unfold addRound
  rw [if_pos h]
  show archFind (addRounds a r d) r = _
  rw [hk]
  exact firstP_app (by simp) _ fun y hy => by have := rounds_lt f (drop_mem hy); rw [decide_eq_false_iff_not]; omega
theorem add_has {a : DArchive} {r : Int} {d : DDatabase} (h : addOk a r d = true) : archHas (addRound a r d) r = true := by
  unfold archHas; rw [add_find h]; rfl
theorem add_db {a : DArchive} {r : Int} {d : DDatabase} (h : addOk a r d = true) : archDb (addRound a r d) r = d := by
  unfold archDb; rw [add_find h]
theorem archEq_refl (a : DArchive) : archEq a a = true := by
  have key : ∀ l : List DArchivedRound, eqL roundEq l l = true := by
    intro l
    induction l with
    | nil => rfl
    | cons x l ih => simp [eqL, roundEq, ih]
  simp [archEq, key]
