/-
  Contracts: the audit of signed answers.
  Conditions: none.
-/
import Derived.Test.YtdbgmncapignoaaFnAn2
import Derived.Test.YtdbgmncapignoaaFnAu
import Derived.Test.YtdbgmncapignoaaVmAg
import Derived.Test.YtdbgmncapignoaaVmAj
import Derived.Shelf.SlGeneric
import Derived.Shelf.SortM.Plain
import Derived.Shelf.SortM.SortNone
import Derived.Ground.SlgmProg
namespace Go.Proofs.Ytdbgmncapignoaa
set_option maxHeartbeats 4000000
set_option maxRecDepth 20000
open Go.Vm Go.RowKit
attribute [local irreducible] FnAt MutAt InAt JAt CurAt FnE CurE RegAt
attribute [local irreducible] falseAns servKey
def hasI (xs : List Int) (x : Int) : Bool := xs.any (fun b => decide (b = x))
theorem hasI_flip (xs : List Int) (x : Int) : xs.any (fun b => decide (x = b)) = hasI xs x := by
  unfold hasI
  congr 1
  funext b
  rw [Bool.eq_iff_iff, decide_eq_true_eq, decide_eq_true_eq]
  exact eq_comm
theorem hasI_iff {xs : List Int} {x : Int} : hasI xs x = true ↔ x ∈ xs := by
  simp only [hasI, List.any_eq_true, decide_eq_true_eq]
  constructor
  · rintro ⟨y, h1, rfl⟩; exact h1
  · intro h; exact ⟨x, h, rfl⟩
theorem hasI_T {xs : List Int} {x : Int} {i : Nat} (h : i < xs.length) (hp : xs[i] = x) : hasI (xs.drop i) x = true := by
  rw [List.drop_eq_getElem_cons h]; simp only [hasI, List.any_cons, decide_eq_true hp, Bool.true_or]
theorem hasI_F {xs : List Int} {x : Int} {i : Nat} (h : i < xs.length) (hp : ¬ xs[i] = x) : hasI (xs.drop i) x = hasI (xs.drop (i + 1)) x := by
  rw [List.drop_eq_getElem_cons h]; simp only [hasI, List.any_cons, decide_eq_false hp, Bool.false_or]
theorem hasI_end {xs : List Int} {x : Int} {i : Nat} (h : xs.length ≤ i) : hasI (xs.drop i) x = false := by
  rw [List.drop_of_length_le h]; rfl
/-- A number put in ahead of the first that is not below it. -/
def insS (s : Int) : List Int → List Int
  | [] => [s]
  | x :: r => if x < s then x :: insS s r else s :: x :: r
theorem insS_perm (s : Int) : ∀ l : List Int, (insS s l).Perm (l ++ [s])
  | [] => List.Perm.refl _
  | x :: r => by
    unfold insS
    split
    · exact (insS_perm s r).cons x
    · exact (List.perm_append_comm (l₁ := [s]) (l₂ := x :: r))
theorem insS_sorted {s : Int} : ∀ {l : List Int}, l.Pairwise (· ≤ ·) → (insS s l).Pairwise (· ≤ ·)
  | [], _ => List.pairwise_singleton _ _
  | x :: r, h => by
    obtain ⟨h1, h2⟩ := List.pairwise_cons.1 h
    unfold insS
    split
    · refine List.pairwise_cons.2 ⟨fun y hy => ?_, insS_sorted h2⟩
      rcases List.mem_append.1 ((insS_perm s r).subset hy) with hy | hy
      · exact h1 y hy
      · rw [List.mem_singleton.1 hy]; omega
    · refine List.pairwise_cons.2 ⟨fun y hy => ?_, h⟩
      rcases List.mem_cons.1 hy with rfl | hy
      · omega
      · have := h1 y hy; omega
theorem insS_cut {s : Int} : ∀ {l : List Int} {k : Nat}, k ≤ l.length → (∀ (j : Nat) (hj : j < l.length), j < k → l[j] < s) → (∀ h : k < l.length, ¬ l[k] < s) → l.take k ++ [s] ++ l.drop k = insS s l
  | [], k, _, _, _ => by simp [insS]
  | x :: r, 0, _, _, h => by
    have : ¬ x < s := h (by simp)
    simp [insS, this]
  | x :: r, k + 1, hk, h1, h2 => by
    have h0 : x < s := h1 0 (by simp) (by omega)
    have ih := insS_cut (s := s) (l := r) (k := k) (by simpa using hk) (fun j hj hjk => h1 (j + 1) (by simpa using hj) (by omega)) (fun h => h2 (by simpa using h))
    simp only [insS, if_pos h0, List.take_succ_cons, List.drop_succ_cons, List.cons_append, List.append_assoc] at ih ⊢
    rw [← ih]
def srt (l : List Int) : List Int := l.mergeSort fun x y => decide (x ≤ y)
theorem srt_len (l : List Int) : (srt l).length = l.length := (List.mergeSort_perm l _).length_eq
def auB (m : Int) (d : DDatabase) (a : DSignedAnswer) : Bool := falseAns (servKey m a.Server) d a
def auI (m : Int) (d : DDatabase) (l : List DSignedAnswer) : Nat → List Int
  | 0 => []
  | i + 1 => match l[i]? with
    | some a => if auB m d a && !hasI (auI m d l i) a.Server then auI m d l i ++ [a.Server] else auI m d l i
    | none => auI m d l i
def auS (m : Int) (d : DDatabase) (l : List DSignedAnswer) : Nat → List Int
  | 0 => []
  | i + 1 => match l[i]? with
    | some a => if auB m d a && !hasI (auS m d l i) a.Server then insS a.Server (auS m d l i) else auS m d l i
    | none => auS m d l i
section
variable {m : Int} {d : DDatabase} {l : List DSignedAnswer}
theorem auI_T {i : Nat} (h : i < l.length) (h1 : auB m d l[i] = true) (h2 : hasI (auI m d l i) l[i].Server = false) : auI m d l (i + 1) = auI m d l i ++ [l[i].Server] := by
  simp only [auI, List.getElem?_eq_getElem h, h1, h2]; rfl
theorem auI_F {i : Nat} (h : i < l.length) (h1 : auB m d l[i] = false) : auI m d l (i + 1) = auI m d l i := by
  simp only [auI, List.getElem?_eq_getElem h, h1]; rfl
theorem auI_G {i : Nat} (h : i < l.length) (h2 : hasI (auI m d l i) l[i].Server = true) : auI m d l (i + 1) = auI m d l i := by
  simp only [auI, List.getElem?_eq_getElem h, h2, Bool.not_true, Bool.and_false]; rfl
theorem auS_T {i : Nat} (h : i < l.length) (h1 : auB m d l[i] = true) (h2 : hasI (auS m d l i) l[i].Server = false) : auS m d l (i + 1) = insS l[i].Server (auS m d l i) := by
  simp only [auS, List.getElem?_eq_getElem h, h1, h2]; rfl
theorem auS_F {i : Nat} (h : i < l.length) (h1 : auB m d l[i] = false) : auS m d l (i + 1) = auS m d l i := by
  simp only [auS, List.getElem?_eq_getElem h, h1]; rfl
theorem auS_G {i : Nat} (h : i < l.length) (h2 : hasI (auS m d l i) l[i].Server = true) : auS m d l (i + 1) = auS m d l i := by
  simp only [auS, List.getElem?_eq_getElem h, h2, Bool.not_true, Bool.and_false]; rfl
theorem auI_len : ∀ i, (auI m d l i).length ≤ i
  | 0 => Nat.le_refl _
  | i + 1 => by
    have ih := auI_len i
    unfold auI
    split
    · split
      · simp only [List.length_append, List.length_cons, List.length_nil]; omega
      · omega
    · omega
theorem au_perm : ∀ i, (auS m d l i).Perm (auI m d l i) ∧ (auS m d l i).Pairwise (· ≤ ·)
  | 0 => ⟨List.Perm.refl _, List.Pairwise.nil⟩
  | i + 1 => by
    obtain ⟨h1, h2⟩ := au_perm i
    have e : ∀ x, hasI (auS m d l i) x = hasI (auI m d l i) x := fun x => by
      rw [Bool.eq_iff_iff, hasI_iff, hasI_iff]; exact h1.mem_iff
    unfold auS auI
    split
    · rw [e]
      split
      · exact ⟨(insS_perm _ _).trans (h1.append_right _), insS_sorted h2⟩
      · exact ⟨h1, h2⟩
    · exact ⟨h1, h2⟩
theorem auS_len (i : Nat) : (auS m d l i).length ≤ i := by rw [(au_perm i).1.length_eq]; exact auI_len i
theorem au_eq (i : Nat) : srt (auI m d l i) = auS m d l i := by
  obtain ⟨h1, h2⟩ := au_perm (m := m) (d := d) (l := l) i
  refine List.Perm.eq_of_pairwise (le := (· ≤ ·)) (fun a b _ _ h3 h4 => Int.le_antisymm h3 h4) ?_ h2 ((List.mergeSort_perm _ _).trans h1.symm)
  have := List.pairwise_mergeSort (le := fun x y : Int => decide (x ≤ y)) (fun a b c h3 h4 => by simp only [decide_eq_true_eq] at *; omega) (fun a b => by simp only [Bool.or_eq_true, decide_eq_true_eq]; omega) (auI m d l i)
  exact this.imp (fun h => by simpa using h)
end
theorem c_IndexI (xs : List Int) (x : Int) (hx : xs.length ≤ 1099511627776) : FnAt Try.prog 144 [.one (L eI xs), .one (I x)] [.one (.s (I (idxF (fun b => decide (x = b)) xs 0)))] := by
  refine fn_of Try.func144 rfl (by kernel_rfl) rfl ?_
  all_goals repeat' (first
    | (with_reducible rfl)
    | (conv => whnf
       first
         | exact trivial
         | (with_reducible rfl)
         | exact (rfl : (0 : Int) = ((0 : Nat) : Int))
         | exact w64_nat arith
         | refine bcase_T (by first | with_reducible rfl | decide) ?_
         | refine bcase_F (by first | with_reducible rfl | decide) ?_
         | refine bcase_dec (fun _ => ?_) (fun _ => ?_)
         | refine bcase_not ?_
         | refine bcase_intro (fun _ => ?_) (fun _ => ?_)
         | refine ⟨(by with_reducible rfl), ?_⟩
         | refine ⟨congrArg vi ?_, ?_⟩
         | refine ⟨congrArg vb ?_, ?_⟩
         | refine ⟨rfl, ?_⟩
         | refine ⟨(by kernel_rfl : drawOK _ = true), ?_⟩
         | refine Or.inl ?_
         | refine ⟨⟨congrArg (T.int _) ?_, rfl⟩, ?_⟩
         | refine ⟨⟨congrArg T.bool ?_, rfl⟩, ?_⟩
         | refine ⟨⟨rfl, Nat.le_of_ble_eq_true rfl⟩, ?_⟩
         | refine ⟨⟨rfl, rfl⟩, ?_⟩
         | refine ⟨⟨rfl, (by decide)⟩, ?_⟩
         | refine ⟨⟨rfl, ?_⟩, ?_⟩
         | refine ⟨Or.inr rfl, ?_⟩
         | refine ⟨Or.inl rfl, ?_⟩
         | refine ⟨⟨⟨rfl, rfl, rfl⟩, ?_⟩, ?_⟩
         | refine ⟨_, _, rfl, row_get _ _ arith, rfl, ?_⟩
         | refine ⟨Or.inr (by repeat (first | exact trivial | refine ⟨rfl, ?_⟩)), ?_⟩
         | refine ⟨(?_ : _ = ([] : List (List T))), ?_⟩
         | fail))
  conv => whnf
  refine ⟨Nat, fun i => i ≤ xs.length ∧ idxF (fun b => decide (x = b)) xs 0 = idxF (fun b => decide (x = b)) (xs.drop i) i, fun i => ⟨[(0, vl (xs.map eI)), (1, vi x), (7, vi xs.length), (8, vi i)], [], 0⟩, fun i => xs.length - i, 0, ⟨Nat.zero_le _, rfl⟩, ⟨[], rfl, rfl, rfl, ?_, ?_⟩, fun i hi => ?_⟩
  all_goals repeat' (first
    | (with_reducible rfl)
    | (conv => whnf
       first
         | exact trivial
         | (with_reducible rfl)
         | exact (rfl : (0 : Int) = ((0 : Nat) : Int))
         | exact w64_nat arith
         | refine bcase_T (by first | with_reducible rfl | decide) ?_
         | refine bcase_F (by first | with_reducible rfl | decide) ?_
         | refine bcase_dec (fun _ => ?_) (fun _ => ?_)
         | refine bcase_not ?_
         | refine bcase_intro (fun _ => ?_) (fun _ => ?_)
         | refine ⟨(by with_reducible rfl), ?_⟩
         | refine ⟨congrArg vi ?_, ?_⟩
         | refine ⟨congrArg vb ?_, ?_⟩
         | refine ⟨rfl, ?_⟩
         | refine ⟨(by kernel_rfl : drawOK _ = true), ?_⟩
         | refine Or.inl ?_
         | refine ⟨⟨congrArg (T.int _) ?_, rfl⟩, ?_⟩
         | refine ⟨⟨congrArg T.bool ?_, rfl⟩, ?_⟩
         | refine ⟨⟨rfl, Nat.le_of_ble_eq_true rfl⟩, ?_⟩
         | refine ⟨⟨rfl, rfl⟩, ?_⟩
         | refine ⟨⟨rfl, (by decide)⟩, ?_⟩
         | refine ⟨⟨rfl, ?_⟩, ?_⟩
         | refine ⟨Or.inr rfl, ?_⟩
         | refine ⟨Or.inl rfl, ?_⟩
         | refine ⟨⟨⟨rfl, rfl, rfl⟩, ?_⟩, ?_⟩
         | refine ⟨_, _, rfl, row_get _ _ arith, rfl, ?_⟩
         | refine ⟨Or.inr (by repeat (first | exact trivial | refine ⟨rfl, ?_⟩)), ?_⟩
         | refine ⟨(?_ : _ = ([] : List (List T))), ?_⟩
         | refine ⟨i + 1, ⟨⟨arith, ?_⟩, arith⟩, ⟨[], rfl, rfl, rfl, ?_, ?_⟩⟩
         | fail))
  all_goals first
    | (rw [List.length_map]; done)
    | exact hi.2.trans (idxF_T (p := fun b => decide (x = b)) (i := i) (Int.ofNat_lt.1 (by assumption)) (decide_eq_true (by assumption)))
    | exact (hi.2.trans (idxF_T (p := fun b => decide (x = b)) (i := i) (Int.ofNat_lt.1 (by assumption)) (decide_eq_true (by assumption)))).symm
    | exact hi.2.trans (idxF_F (p := fun b => decide (x = b)) (i := i) (Int.ofNat_lt.1 (by assumption)) (decide_eq_false (by assumption)))
    | exact (hi.2.trans (idxF_end (p := fun b => decide (x = b)) (i := i) (Nat.le_of_not_lt fun h => (by assumption : ¬ ((i : Int) < xs.length)) (Int.ofNat_lt.2 h)))).symm
theorem c_ContainsI (xs : List Int) (x : Int) (hx : xs.length ≤ 1099511627776) : FnAt Try.prog 87 [.one (L eI xs), .one (I x)] [.one (.s (.bool (hasI xs x)))] := by
  refine fn_of Try.func87 rfl (by kernel_rfl) rfl ?_
  all_goals repeat' (first
    | (with_reducible rfl)
    | (conv => whnf
       first
         | exact trivial
         | (with_reducible rfl)
         | exact (rfl : (0 : Int) = ((0 : Nat) : Int))
         | exact w64_nat arith
         | refine bcase_T (by first | with_reducible rfl | decide) ?_
         | refine bcase_F (by first | with_reducible rfl | decide) ?_
         | refine bcase_dec (fun _ => ?_) (fun _ => ?_)
         | refine bcase_not ?_
         | refine bcase_intro (fun _ => ?_) (fun _ => ?_)
         | refine ⟨(by with_reducible rfl), ?_⟩
         | refine ⟨congrArg vi ?_, ?_⟩
         | refine ⟨congrArg vb ?_, ?_⟩
         | refine ⟨rfl, ?_⟩
         | refine ⟨(by kernel_rfl : drawOK _ = true), ?_⟩
         | refine Or.inl ?_
         | refine ⟨⟨congrArg (T.int _) ?_, rfl⟩, ?_⟩
         | refine ⟨⟨congrArg T.bool ?_, rfl⟩, ?_⟩
         | refine ⟨⟨rfl, Nat.le_of_ble_eq_true rfl⟩, ?_⟩
         | refine ⟨⟨rfl, rfl⟩, ?_⟩
         | refine ⟨⟨rfl, (by decide)⟩, ?_⟩
         | refine ⟨⟨rfl, ?_⟩, ?_⟩
         | refine ⟨Or.inr rfl, ?_⟩
         | refine ⟨Or.inl rfl, ?_⟩
         | refine ⟨⟨⟨rfl, rfl, rfl⟩, ?_⟩, ?_⟩
         | refine ⟨_, _, rfl, row_get _ _ arith, rfl, ?_⟩
         | refine ⟨Or.inr (by repeat (first | exact trivial | refine ⟨rfl, ?_⟩)), ?_⟩
         | refine ⟨(?_ : _ = ([] : List (List T))), ?_⟩
         | refine ⟨_, c_IndexI xs x hx, ?_⟩
         | fail))
  all_goals (rw [← hasI_flip]; exact idxF_any xs (Int.le_refl 0))
theorem c_l20Has (xs : List Int) (x : Int) (hx : xs.length ≤ 1099511627776) : FnAt Try.prog 89 [.one (L eI xs), .one (I x)] [.one (.s (.bool (hasI xs x)))] := by
  refine fn_of Try.func89 rfl (by kernel_rfl) rfl ?_
  all_goals repeat' (first
    | (with_reducible rfl)
    | (conv => whnf
       first
         | exact trivial
         | (with_reducible rfl)
         | exact (rfl : (0 : Int) = ((0 : Nat) : Int))
         | exact w64_nat arith
         | refine bcase_T (by first | with_reducible rfl | decide) ?_
         | refine bcase_F (by first | with_reducible rfl | decide) ?_
         | refine bcase_dec (fun _ => ?_) (fun _ => ?_)
         | refine bcase_not ?_
         | refine bcase_intro (fun _ => ?_) (fun _ => ?_)
         | refine ⟨(by with_reducible rfl), ?_⟩
         | refine ⟨congrArg vi ?_, ?_⟩
         | refine ⟨congrArg vb ?_, ?_⟩
         | refine ⟨rfl, ?_⟩
         | refine ⟨(by kernel_rfl : drawOK _ = true), ?_⟩
         | refine Or.inl ?_
         | refine ⟨⟨congrArg (T.int _) ?_, rfl⟩, ?_⟩
         | refine ⟨⟨congrArg T.bool ?_, rfl⟩, ?_⟩
         | refine ⟨⟨rfl, Nat.le_of_ble_eq_true rfl⟩, ?_⟩
         | refine ⟨⟨rfl, rfl⟩, ?_⟩
         | refine ⟨⟨rfl, (by decide)⟩, ?_⟩
         | refine ⟨⟨rfl, ?_⟩, ?_⟩
         | refine ⟨Or.inr rfl, ?_⟩
         | refine ⟨Or.inl rfl, ?_⟩
         | refine ⟨⟨⟨rfl, rfl, rfl⟩, ?_⟩, ?_⟩
         | refine ⟨_, _, rfl, row_get _ _ arith, rfl, ?_⟩
         | refine ⟨Or.inr (by repeat (first | exact trivial | refine ⟨rfl, ?_⟩)), ?_⟩
         | refine ⟨(?_ : _ = ([] : List (List T))), ?_⟩
         | fail))
  conv => whnf
  refine ⟨Nat, fun i => i ≤ xs.length ∧ hasI xs x = hasI (xs.drop i) x, fun i => ⟨[(0, vl (xs.map eI)), (1, vi x), (5, vi i)], [], 0⟩, fun i => xs.length - i, 0, ⟨Nat.zero_le _, rfl⟩, ⟨[], rfl, rfl, rfl, ?_, ?_⟩, fun i hi => ?_⟩
  all_goals repeat' (first
    | (with_reducible rfl)
    | (conv => whnf
       first
         | exact trivial
         | (with_reducible rfl)
         | exact (rfl : (0 : Int) = ((0 : Nat) : Int))
         | exact w64_nat arith
         | refine bcase_T (by first | with_reducible rfl | decide) ?_
         | refine bcase_F (by first | with_reducible rfl | decide) ?_
         | refine bcase_dec (fun _ => ?_) (fun _ => ?_)
         | refine bcase_not ?_
         | refine bcase_intro (fun _ => ?_) (fun _ => ?_)
         | refine ⟨(by with_reducible rfl), ?_⟩
         | refine ⟨congrArg vi ?_, ?_⟩
         | refine ⟨congrArg vb ?_, ?_⟩
         | refine ⟨rfl, ?_⟩
         | refine ⟨(by kernel_rfl : drawOK _ = true), ?_⟩
         | refine Or.inl ?_
         | refine ⟨⟨congrArg (T.int _) ?_, rfl⟩, ?_⟩
         | refine ⟨⟨congrArg T.bool ?_, rfl⟩, ?_⟩
         | refine ⟨⟨rfl, Nat.le_of_ble_eq_true rfl⟩, ?_⟩
         | refine ⟨⟨rfl, rfl⟩, ?_⟩
         | refine ⟨⟨rfl, (by decide)⟩, ?_⟩
         | refine ⟨⟨rfl, ?_⟩, ?_⟩
         | refine ⟨Or.inr rfl, ?_⟩
         | refine ⟨Or.inl rfl, ?_⟩
         | refine ⟨⟨⟨rfl, rfl, rfl⟩, ?_⟩, ?_⟩
         | refine ⟨_, _, rfl, row_get _ _ arith, rfl, ?_⟩
         | refine ⟨Or.inr (by repeat (first | exact trivial | refine ⟨rfl, ?_⟩)), ?_⟩
         | refine ⟨(?_ : _ = ([] : List (List T))), ?_⟩
         | refine ⟨i + 1, ⟨⟨arith, ?_⟩, arith⟩, ⟨[], rfl, rfl, rfl, ?_, ?_⟩⟩
         | fail))
  all_goals first
    | (rw [List.length_map]; done)
    | exact (hi.2.trans (hasI_T (i := i) (lt_map (by assumption)) (by assumption))).symm
    | exact hi.2.trans (hasI_F (i := i) (lt_map (by assumption)) (by assumption))
    | exact (hi.2.trans (hasI_end (i := i) (Nat.le_of_not_lt fun h => (by assumption : ¬ ((i : Int) < ((xs.map eI).length : Int))) (by rw [List.length_map]; exact Int.ofNat_lt.2 h)))).symm
set_option maxHeartbeats 20000000
shelf_lay_g SlLaysM.n5 Slgm 5 at Try 88 as Try.laySort
theorem enter_sort : Enter Try.prog 88 := ⟨_, _, Try.func88, rfl, by kernel_rfl⟩
theorem sort_at (zs : List Int) (h : zs.length < 4611686018427387904) (blk off cap : Nat) (w : World) (hH : Go.Sort.Holds (Value.int .i64) w blk off zs.toArray) (hb : blk < w.heap.size) : Calls Try.prog 88 #[.slice (some ⟨blk, off, none⟩) zs.length cap] w fun e w' =>
      e = .returned (.tuple #[]) ∧ ∃ n os, w' = Go.Sort.grow (Go.Sort.putRow (Value.int .i64) (Go.Sort.ahead w n) blk off (srt zs).toArray) os :=
  Go.Proofs.AnyM.slices_Sort_int Try.laySort blk off cap zs w hH hb h
theorem sort_none (p : Option Addr) (cap : Nat) (w : World) : Calls Try.prog 88 #[.slice p 0 cap] w fun e w' => e = .returned (.tuple #[]) ∧ w' = w :=
  Go.calls_of_every_depth fun D => Go.Proofs.AnySM.slices_Sort_int_none_in Try.laySort D p cap w
def bigAs (l : List DSignedAnswer) : Prop := l.length ≤ 1099511627776 ∧ ∀ a ∈ l, a.Selection.length ≤ 500000000000 ∧ a.Data.length ≤ 500000000000
theorem c_AuditAnswers (m : Int) (d : DDatabase) (l : List DSignedAnswer) (hd : bigB d.Rows) (hl : bigAs l) : FnAt Try.prog 27 [.one (I m), .agg (DDatabase.e d), .one (L DSignedAnswer.e l)] [.one (.l 1 ((srt (auI m d l l.length)).map eI))] := by
  have hal := fun i => auI_len (m := m) (d := d) (l := l) i
  have hx := hl.1
  have hm := lenm DSignedAnswer.e l
  refine fn_of Try.func27 rfl (by kernel_rfl) rfl ?_
  all_goals repeat' (first
    | (with_reducible rfl)
    | (conv => whnf
       first
         | exact trivial
         | (with_reducible rfl)
         | exact (rfl : (0 : Int) = ((0 : Nat) : Int))
         | exact w64_nat arith
         | refine bcase_T (by first | with_reducible rfl | decide) ?_
         | refine bcase_F (by first | with_reducible rfl | decide) ?_
         | refine bcase_dec (fun _ => ?_) (fun _ => ?_)
         | refine bcase_not ?_
         | refine bcase_intro (fun _ => ?_) (fun _ => ?_)
         | refine ⟨(by with_reducible rfl), ?_⟩
         | refine ⟨congrArg vi ?_, ?_⟩
         | refine ⟨congrArg vb ?_, ?_⟩
         | refine ⟨rfl, ?_⟩
         | refine ⟨(by kernel_rfl : drawOK _ = true), ?_⟩
         | refine Or.inl ?_
         | refine ⟨⟨congrArg (T.int _) ?_, rfl⟩, ?_⟩
         | refine ⟨⟨congrArg T.bool ?_, rfl⟩, ?_⟩
         | refine ⟨⟨rfl, Nat.le_of_ble_eq_true rfl⟩, ?_⟩
         | refine ⟨⟨rfl, rfl⟩, ?_⟩
         | refine ⟨⟨rfl, (by decide)⟩, ?_⟩
         | refine ⟨⟨rfl, ?_⟩, ?_⟩
         | refine ⟨Or.inr rfl, ?_⟩
         | refine ⟨Or.inl rfl, ?_⟩
         | refine ⟨⟨⟨rfl, rfl, rfl⟩, ?_⟩, ?_⟩
         | refine ⟨_, _, rfl, row_get _ _ arith, rfl, ?_⟩
         | refine ⟨Or.inr (by repeat (first | exact trivial | refine ⟨rfl, ?_⟩)), ?_⟩
         | refine ⟨(?_ : _ = ([] : List (List T))), ?_⟩
         | fail))
  conv => whnf
  refine ⟨Nat, fun i => i ≤ l.length, fun i => ⟨[(0, vi m), (4, .ptr 0 0), (7, .c (.ref 1)), (11, vl (l.map DSignedAnswer.e)), (12, vi l.length), (13, vi i)], [(0, .box [.t (L (eL eU) d.Rows)]), (1, .row true true 1 ((auI m d l i).map eI))], 2⟩, fun i => l.length - i, 0, Nat.zero_le _, sub_at [(0, 4), (1, 7)] rfl rfl rfl ?_ ?_, fun i (hi : i ≤ l.length) => ?_⟩
  all_goals repeat' (first
    | (with_reducible rfl)
    | (conv => whnf
       first
         | (refine bcase_dec (fun _ => ?_) (fun _ => ?_); rotate_left; (obtain rfl : i = l.length := (by omega)); rotate_right)
         | refine ⟨_, c_ServerKey _ _, ?_⟩
         | refine ⟨_, c_IsFalseAnswer (servKey m (l[i]'(by omega)).Server) d (l[i]'(by omega)) hd (hl.2 _ (List.getElem_mem _)).1 (hl.2 _ (List.getElem_mem _)).2, ?_⟩
         | refine ⟨_, c_ContainsI (auI m d l i) _ (by have := hal i; omega), ?_⟩
         | (have h8 := hal i; refine ⟨true, fun _ => (by simp [isScal]), ⟨rfl, rfl⟩, ⟨bnd, bnd⟩, ?_⟩)
         | refine ⟨i + 1, ⟨arith, arith⟩, sub_at [(0, 4), (1, 7)] rfl rfl rfl ?_ ?_⟩
         | (refine Or.inr ⟨rfl, Or.inl ?_⟩; (conv => whnf); refine inAt_sort (zs := auI m d l l.length) (ts := srt (auI m d l l.length)) enter_sort (srt_len _) (sort_at _ (by have := hal l.length; omega)) sort_none (by rfl) ?_)
         | exact trivial
         | (with_reducible rfl)
         | exact (rfl : (0 : Int) = ((0 : Nat) : Int))
         | exact w64_nat arith
         | refine bcase_T (by first | with_reducible rfl | decide) ?_
         | refine bcase_F (by first | with_reducible rfl | decide) ?_
         | refine bcase_dec (fun _ => ?_) (fun _ => ?_)
         | refine bcase_not ?_
         | refine bcase_intro (fun _ => ?_) (fun _ => ?_)
         | refine ⟨(by with_reducible rfl), ?_⟩
         | refine ⟨congrArg vi ?_, ?_⟩
         | refine ⟨congrArg vb ?_, ?_⟩
         | refine ⟨rfl, ?_⟩
         | refine ⟨(by kernel_rfl : drawOK _ = true), ?_⟩
         | refine Or.inl ?_
         | refine ⟨⟨congrArg (T.int _) ?_, rfl⟩, ?_⟩
         | refine ⟨⟨congrArg T.bool ?_, rfl⟩, ?_⟩
         | refine ⟨⟨rfl, Nat.le_of_ble_eq_true rfl⟩, ?_⟩
         | refine ⟨⟨rfl, rfl⟩, ?_⟩
         | refine ⟨⟨rfl, (by decide)⟩, ?_⟩
         | refine ⟨⟨rfl, ?_⟩, ?_⟩
         | refine ⟨Or.inr rfl, ?_⟩
         | refine ⟨Or.inl rfl, ?_⟩
         | refine ⟨⟨⟨rfl, rfl, rfl⟩, ?_⟩, ?_⟩
         | refine ⟨_, _, rfl, row_get _ _ arith, rfl, ?_⟩
         | refine ⟨Or.inr (by repeat (first | exact trivial | refine ⟨rfl, ?_⟩)), ?_⟩
         | refine ⟨(?_ : _ = ([] : List (List T))), ?_⟩
         | fail))
  all_goals first
    | rfl
    | exact congrArg _ hm
    | (rw [auI_G (by omega) (by assumption)]; done)
    | (rw [auI_F (by omega) (by assumption)]; done)
    | (rw [auI_T (by omega) (by assumption) (by assumption), List.map_append]; rfl)
    | trace_state
theorem ins_rows {s : Int} {xs : List Int} {k : Nat} (hk : k ≤ xs.length ∧ ∀ (j : Nat) (hj : j < xs.length), j < k → xs[j] < s) (h2 : ∀ h : k < xs.length, ¬ xs[k] < s) : (insS s xs).map eI = (xs.map eI).take k ++ [[T.int .i64 s]] ++ (xs.map eI).drop k := by
  rw [← insS_cut hk.1 hk.2 h2, List.map_append, List.map_append, List.map_take, List.map_drop]; rfl
theorem view_bnd {α : Type} {rows : List α} {n lo hi : Nat} (h : rows.length = n) (hn : n ≤ 1099511627776) : ((rows.take hi).drop lo).length * 8 ≤ 140737488355328 := by
  rw [List.length_drop, List.length_take]; omega
theorem view_bnd1 {α : Type} {rows : List α} {n lo hi : Nat} (h : rows.length = n) (hn : n ≤ 1099511627776) : ((rows.take hi).drop lo).length ≤ 140737488355328 := by
  rw [List.length_drop, List.length_take]; omega
theorem ins_bnd {α : Type} {rows : List α} {x : α} {n k : Nat} (h : rows.length = n) (hn : n ≤ 1099511627776) (hk : 0 = 0) : ((([] ++ (rows.take k).drop 0) ++ [x]).length + ((rows.take rows.length).drop k).length) * 8 ≤ 140737488355328 := by
  simp only [List.length_append, List.length_drop, List.length_take, List.length_cons, List.length_nil]; omega
theorem ins_bnd1 {α : Type} {rows : List α} {x : α} {n k : Nat} (h : rows.length = n) (hn : n ≤ 1099511627776) (hk : 0 = 0) : (([] ++ (rows.take k).drop 0) ++ [x]).length + ((rows.take rows.length).drop k).length ≤ 140737488355328 := by
  simp only [List.length_append, List.length_drop, List.length_take, List.length_cons, List.length_nil]; omega
theorem c_sAuditAnswers (m : Int) (d : DDatabase) (l : List DSignedAnswer) (hd : bigB d.Rows) (hl : bigAs l) : FnAt Try.prog 28 [.one (I m), .agg (DDatabase.e d), .one (L DSignedAnswer.e l)] [.one (.l 1 ((auS m d l l.length).map eI))] := by
  have hal := fun i => auS_len (m := m) (d := d) (l := l) i
  have hx := hl.1
  have hm := lenm DSignedAnswer.e l
  refine fn_of Try.func28 rfl (by kernel_rfl) rfl ?_
  all_goals repeat' (first
    | (with_reducible rfl)
    | (conv => whnf
       first
         | exact trivial
         | (with_reducible rfl)
         | exact (rfl : (0 : Int) = ((0 : Nat) : Int))
         | exact w64_nat arith
         | refine bcase_T (by first | with_reducible rfl | decide) ?_
         | refine bcase_F (by first | with_reducible rfl | decide) ?_
         | refine bcase_dec (fun _ => ?_) (fun _ => ?_)
         | refine bcase_not ?_
         | refine bcase_intro (fun _ => ?_) (fun _ => ?_)
         | refine ⟨(by with_reducible rfl), ?_⟩
         | refine ⟨congrArg vi ?_, ?_⟩
         | refine ⟨congrArg vb ?_, ?_⟩
         | refine ⟨rfl, ?_⟩
         | refine ⟨(by kernel_rfl : drawOK _ = true), ?_⟩
         | refine Or.inl ?_
         | refine ⟨⟨congrArg (T.int _) ?_, rfl⟩, ?_⟩
         | refine ⟨⟨congrArg T.bool ?_, rfl⟩, ?_⟩
         | refine ⟨⟨rfl, Nat.le_of_ble_eq_true rfl⟩, ?_⟩
         | refine ⟨⟨rfl, rfl⟩, ?_⟩
         | refine ⟨⟨rfl, (by decide)⟩, ?_⟩
         | refine ⟨⟨rfl, ?_⟩, ?_⟩
         | refine ⟨Or.inr rfl, ?_⟩
         | refine ⟨Or.inl rfl, ?_⟩
         | refine ⟨⟨⟨rfl, rfl, rfl⟩, ?_⟩, ?_⟩
         | refine ⟨_, _, rfl, row_get _ _ arith, rfl, ?_⟩
         | refine ⟨Or.inr (by repeat (first | exact trivial | refine ⟨rfl, ?_⟩)), ?_⟩
         | refine ⟨(?_ : _ = ([] : List (List T))), ?_⟩
         | fail))
  conv => whnf
  refine ⟨Nat, fun i => i ≤ l.length, fun i => ⟨[(0, vi m), (2, vl (l.map DSignedAnswer.e)), (4, .ptr 0 0), (7, .c (.ref 1)), (8, vi i)], [(0, .box [.t (L (eL eU) d.Rows)]), (1, .row true true 1 ((auS m d l i).map eI))], 2⟩, fun i => l.length - i, 0, Nat.zero_le _, sub_at [(0, 4), (1, 7)] rfl rfl rfl ?_ ?_, fun i (hi : i ≤ l.length) => ?_⟩
  all_goals repeat' (first
    | (with_reducible rfl)
    | (conv => whnf
       first
         | (refine bcase_dec (fun _ => ?_) (fun _ => ?_); rotate_left; (obtain rfl : i = l.length := (by omega)); rotate_right)
         | refine ⟨_, c_sServerKey _ _, ?_⟩
         | refine ⟨_, c_sIsFalseAnswer (servKey m (l[i]'(by omega)).Server) d (l[i]'(by omega)) hd (hl.2 _ (List.getElem_mem _)).1 (hl.2 _ (List.getElem_mem _)).2, ?_⟩
         | refine ⟨_, c_l20Has (auS m d l i) _ (by have := hal i; omega), ?_⟩
         | refine ⟨i + 1, ⟨arith, arith⟩, sub_at [(0, 4), (1, 7)] rfl rfl rfl ?_ ?_⟩
         | exact trivial
         | (with_reducible rfl)
         | exact (rfl : (0 : Int) = ((0 : Nat) : Int))
         | exact w64_nat arith
         | refine bcase_T (by first | with_reducible rfl | decide) ?_
         | refine bcase_F (by first | with_reducible rfl | decide) ?_
         | refine bcase_dec (fun _ => ?_) (fun _ => ?_)
         | refine bcase_not ?_
         | refine bcase_intro (fun _ => ?_) (fun _ => ?_)
         | refine ⟨(by with_reducible rfl), ?_⟩
         | refine ⟨congrArg vi ?_, ?_⟩
         | refine ⟨congrArg vb ?_, ?_⟩
         | refine ⟨rfl, ?_⟩
         | refine ⟨(by kernel_rfl : drawOK _ = true), ?_⟩
         | refine Or.inl ?_
         | refine ⟨⟨congrArg (T.int _) ?_, rfl⟩, ?_⟩
         | refine ⟨⟨congrArg T.bool ?_, rfl⟩, ?_⟩
         | refine ⟨⟨rfl, Nat.le_of_ble_eq_true rfl⟩, ?_⟩
         | refine ⟨⟨rfl, rfl⟩, ?_⟩
         | refine ⟨⟨rfl, (by decide)⟩, ?_⟩
         | refine ⟨⟨rfl, ?_⟩, ?_⟩
         | refine ⟨Or.inr rfl, ?_⟩
         | refine ⟨Or.inl rfl, ?_⟩
         | refine ⟨⟨⟨rfl, rfl, rfl⟩, ?_⟩, ?_⟩
         | refine ⟨_, _, rfl, row_get _ _ arith, rfl, ?_⟩
         | refine ⟨Or.inr (by repeat (first | exact trivial | refine ⟨rfl, ?_⟩)), ?_⟩
         | refine ⟨(?_ : _ = ([] : List (List T))), ?_⟩
         | fail))
  all_goals first
    | (conv => whnf
       refine ⟨Nat, fun k => k ≤ (auS m d l i).length ∧ ∀ (j : Nat) (hj : j < (auS m d l i).length), j < k → (auS m d l i)[j] < (l[i]'(by omega)).Server, fun k => ⟨[(0, vi m), (2, vl (l.map DSignedAnswer.e)), (4, .ptr 0 0), (7, .c (.ref 1)), (8, vi i), (9, vi (l[i]'(by omega)).Server), (10, vi k)], [(0, .box [.t (L (eL eU) d.Rows)]), (1, .row true true 1 ((auS m d l i).map eI))], 2⟩, fun k => (auS m d l i).length - k, 0, ⟨Nat.zero_le _, fun j _ h => absurd h (Nat.not_lt_zero _)⟩, sub_at [(0, 4), (1, 7)] rfl rfl rfl ?_ ?_, fun k hk => ?_⟩)
    | skip
  all_goals repeat' (first
    | (with_reducible rfl)
    | (conv => whnf
       first
         | refine regAt_lite tys_ok (by kernel_rfl) (by kernel_rfl) ?_
         | refine ⟨(by show frmO _ _ _; repeat (first | exact trivial | refine ⟨rfl, ?_⟩)), ?_⟩
         | refine ⟨k, rfl, (by omega), ?_⟩
         | refine ⟨_, row_get eI (auS m d l i) (lt_map (by assumption)), ?_⟩
         | refine ⟨0, k, rfl, rfl, ⟨Nat.zero_le _, by rw [List.length_map]; exact hk.1⟩, ?_⟩
         | refine ⟨k, _, rfl, rfl, ⟨by rw [List.length_map]; exact hk.1, Nat.le_refl _⟩, ?_⟩
         | (have h8 := hal i; refine ⟨true, fun _ => (by simp [isScal]), ⟨rfl, rfl⟩, ⟨bnd, bnd⟩, ?_⟩)
         | (have h8 := hal i; have h9 : ((auS m d l i).map eI).length = (auS m d l i).length := List.length_map _; refine ⟨true, ⟨rfl, rfl⟩, fun _ r hr => scalI _ r (List.mem_of_mem_take (List.mem_of_mem_drop hr)), fun r hr => lenI _ r (List.mem_of_mem_take (List.mem_of_mem_drop hr)), ⟨view_bnd h9 (by omega), view_bnd1 h9 (by omega)⟩, ?_⟩)
         | (have h8 := hal i; have h9 : ((auS m d l i).map eI).length = (auS m d l i).length := List.length_map _; refine ⟨true, fun _ r hr => scalI _ r (List.mem_of_mem_take (List.mem_of_mem_drop hr)), fun r hr => lenI _ r (List.mem_of_mem_take (List.mem_of_mem_drop hr)), ⟨ins_bnd h9 (by omega) (by omega), ins_bnd1 h9 (by omega) (by omega)⟩, ?_⟩)
         | refine ⟨i + 1, ⟨arith, arith⟩, sub_at [(0, 4), (1, 7)] rfl rfl rfl ?_ ?_⟩
         | refine ⟨k + 1, ⟨⟨arith, ?_⟩, arith⟩, sub_at [(0, 4), (1, 7)] rfl rfl rfl ?_ ?_⟩
         | exact trivial
         | (with_reducible rfl)
         | exact (rfl : (0 : Int) = ((0 : Nat) : Int))
         | exact w64_nat arith
         | refine bcase_T (by first | with_reducible rfl | decide) ?_
         | refine bcase_F (by first | with_reducible rfl | decide) ?_
         | refine bcase_dec (fun _ => ?_) (fun _ => ?_)
         | refine bcase_not ?_
         | refine bcase_intro (fun _ => ?_) (fun _ => ?_)
         | refine ⟨(by with_reducible rfl), ?_⟩
         | refine ⟨congrArg vi ?_, ?_⟩
         | refine ⟨congrArg vb ?_, ?_⟩
         | refine ⟨rfl, ?_⟩
         | refine ⟨(by kernel_rfl : drawOK _ = true), ?_⟩
         | refine Or.inl ?_
         | refine ⟨⟨congrArg (T.int _) ?_, rfl⟩, ?_⟩
         | refine ⟨⟨congrArg T.bool ?_, rfl⟩, ?_⟩
         | refine ⟨⟨rfl, Nat.le_of_ble_eq_true rfl⟩, ?_⟩
         | refine ⟨⟨rfl, rfl⟩, ?_⟩
         | refine ⟨⟨rfl, (by decide)⟩, ?_⟩
         | refine ⟨⟨rfl, ?_⟩, ?_⟩
         | refine ⟨Or.inr rfl, ?_⟩
         | refine ⟨Or.inl rfl, ?_⟩
         | refine ⟨⟨⟨rfl, rfl, rfl⟩, ?_⟩, ?_⟩
         | refine ⟨_, _, rfl, row_get _ _ arith, rfl, ?_⟩
         | refine ⟨Or.inr (by repeat (first | exact trivial | refine ⟨rfl, ?_⟩)), ?_⟩
         | refine ⟨(?_ : _ = ([] : List (List T))), ?_⟩
         | fail))
  all_goals first
    | rfl
    | exact congrArg _ hm
    | (rw [auS_G (by omega) (by assumption)]; done)
    | (rw [auS_F (by omega) (by assumption)]; done)
    | exact fun j hj h => if e : j = k then (by subst e; assumption) else hk.2 j hj (by omega)
    | exact w64_nat (by have h8 := hal i; have h9 : k ≤ (auS m d l i).length := hk.1; omega)
    | (show (List.drop 0 (List.take k ((auS m d l i).map eI)) ++ [[T.int .i64 (l[i]'(by omega)).Server]]) ++ List.drop k (List.take _ ((auS m d l i).map eI)) = _; rw [List.take_length, List.drop_zero, auS_T (by omega) (by assumption) (by assumption)]; exact (ins_rows hk (fun h => by first | assumption | (exact absurd (show (k : Int) < (((auS m d l i).map eI).length : Int) by rw [List.length_map]; omega) (by assumption)))).symm)
    | trace_state
theorem c_AuditAnswersS (m : Int) (d : DDatabase) (l : List DSignedAnswer) (hd : bigB d.Rows) (hl : bigAs l) : FnAt Try.prog 27 [.one (I m), .agg (DDatabase.e d), .one (L DSignedAnswer.e l)] [.one (.l 1 ((auS m d l l.length).map eI))] := by
  rw [← au_eq (m := m) (d := d) (l := l) l.length]; exact c_AuditAnswers m d l hd hl
end Go.Proofs.Ytdbgmncapignoaa
