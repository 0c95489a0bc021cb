/-
  What an observer sees of the traffic: contracts and sums.
  Conditions: none.
-/
import Derived.Test.YtkjheelgilffiaaFnT
namespace Go.Proofs.Ytkjheelgilffiaa
set_option maxHeartbeats 4000000
open Go.Vm Go.RowKit

theorem c_TotalBytes (xs : List DTransfer) (hx : xs.length ≤ 1048576) : FnAt Try.prog 22 [.one (L DTransfer.e xs)] [.one (.s (I (total xs)))] := by
  refine fn_of Try.func22 rfl (by kernel_rfl) rfl ?_
  all_goals repeat' (first
    | (with_reducible rfl)
    | (conv => whnf
       first
         | exact trivial
         | (with_reducible rfl)
         | exact (rfl : (0 : Int) = ((0 : Nat) : Int))
         | exact w64_nat (by (try dsimp only); first | omega | exact lt_map (by assumption) | exact ge_map (by assumption) | (have := lt_map (by assumption); omega) | (have := ge_map (by assumption); omega) | (have := lt_mkm (by assumption); omega) | (have := ge_mkm (by assumption); omega) | (have := lt_mkr (by assumption); omega) | (have := ge_mkr (by assumption); omega) | (simp only [List.length_map, List.length_replicate] at *; omega))
         | refine bcase_T (by first | with_reducible rfl | decide) ?_
         | refine bcase_F (by first | with_reducible rfl | decide) ?_
         | refine bcase_dec (fun _ => ?_) (fun _ => ?_)
         | refine bcase_not ?_
         | refine bcase_intro (fun _ => ?_) (fun _ => ?_)
         | refine ⟨(by with_reducible rfl), ?_⟩
         | refine ⟨congrArg vi ?_, ?_⟩
         | refine ⟨congrArg vb ?_, ?_⟩
         | refine ⟨rfl, ?_⟩
         | refine ⟨(by kernel_rfl : drawOK _ = true), ?_⟩
         | refine Or.inl ?_
         | refine ⟨⟨congrArg (T.int _) ?_, rfl⟩, ?_⟩
         | refine ⟨⟨congrArg T.bool ?_, rfl⟩, ?_⟩
         | refine ⟨⟨rfl, Nat.le_of_ble_eq_true rfl⟩, ?_⟩
         | refine ⟨⟨rfl, rfl⟩, ?_⟩
         | refine ⟨⟨rfl, (by decide)⟩, ?_⟩
         | refine ⟨⟨rfl, ?_⟩, ?_⟩
         | refine ⟨Or.inr rfl, ?_⟩
         | refine ⟨Or.inl rfl, ?_⟩
         | refine ⟨⟨⟨rfl, rfl, rfl⟩, ?_⟩, ?_⟩
         | refine ⟨_, _, rfl, row_get _ _ (by (try dsimp only); first | omega | exact lt_map (by assumption) | exact ge_map (by assumption) | (have := lt_map (by assumption); omega) | (have := ge_map (by assumption); omega) | (have := lt_mkm (by assumption); omega) | (have := ge_mkm (by assumption); omega) | (have := lt_mkr (by assumption); omega) | (have := ge_mkr (by assumption); omega) | (simp only [List.length_map, List.length_replicate] at *; omega)), rfl, ?_⟩
         | refine ⟨(?_ : _ = ([] : List (List T))), ?_⟩
         | fail))
  conv => whnf
  refine ⟨Nat, fun i => i ≤ xs.length, fun i => ⟨[(6, vl (xs.map DTransfer.e)), (7, vi xs.length), (3, vi (total (xs.take i))), (8, vi i)], [], 0⟩, fun i => xs.length - i, 0, Nat.zero_le _, ⟨[], rfl, rfl, rfl, ?_, ?_⟩, fun i (hi : i ≤ xs.length) => ?_⟩
  all_goals repeat' (first
    | (with_reducible rfl)
    | (conv => whnf
       first
         | exact trivial
         | (with_reducible rfl)
         | exact (rfl : (0 : Int) = ((0 : Nat) : Int))
         | exact w64_nat (by (try dsimp only); first | omega | exact lt_map (by assumption) | exact ge_map (by assumption) | (have := lt_map (by assumption); omega) | (have := ge_map (by assumption); omega) | (have := lt_mkm (by assumption); omega) | (have := ge_mkm (by assumption); omega) | (have := lt_mkr (by assumption); omega) | (have := ge_mkr (by assumption); omega) | (simp only [List.length_map, List.length_replicate] at *; omega))
         | refine bcase_T (by first | with_reducible rfl | decide) ?_
         | refine bcase_F (by first | with_reducible rfl | decide) ?_
         | refine bcase_dec (fun _ => ?_) (fun _ => ?_)
         | refine bcase_not ?_
         | refine bcase_intro (fun _ => ?_) (fun _ => ?_)
         | refine ⟨(by with_reducible rfl), ?_⟩
         | refine ⟨congrArg vi ?_, ?_⟩
         | refine ⟨congrArg vb ?_, ?_⟩
         | refine ⟨rfl, ?_⟩
         | refine ⟨(by kernel_rfl : drawOK _ = true), ?_⟩
         | refine Or.inl ?_
         | refine ⟨⟨congrArg (T.int _) ?_, rfl⟩, ?_⟩
         | refine ⟨⟨congrArg T.bool ?_, rfl⟩, ?_⟩
         | refine ⟨⟨rfl, Nat.le_of_ble_eq_true rfl⟩, ?_⟩
         | refine ⟨⟨rfl, rfl⟩, ?_⟩
         | refine ⟨⟨rfl, (by decide)⟩, ?_⟩
         | refine ⟨⟨rfl, ?_⟩, ?_⟩
         | refine ⟨Or.inr rfl, ?_⟩
         | refine ⟨Or.inl rfl, ?_⟩
         | refine ⟨⟨⟨rfl, rfl, rfl⟩, ?_⟩, ?_⟩
         | refine ⟨_, _, rfl, row_get _ _ (by (try dsimp only); first | omega | exact lt_map (by assumption) | exact ge_map (by assumption) | (have := lt_map (by assumption); omega) | (have := ge_map (by assumption); omega) | (have := lt_mkm (by assumption); omega) | (have := ge_mkm (by assumption); omega) | (have := lt_mkr (by assumption); omega) | (have := ge_mkr (by assumption); omega) | (simp only [List.length_map, List.length_replicate] at *; omega)), rfl, ?_⟩
         | refine ⟨(?_ : _ = ([] : List (List T))), ?_⟩
         | refine ⟨i + 1, ⟨(by (try dsimp only); first | omega | exact lt_map (by assumption) | exact ge_map (by assumption) | (have := lt_map (by assumption); omega) | (have := ge_map (by assumption); omega) | (have := lt_mkm (by assumption); omega) | (have := ge_mkm (by assumption); omega) | (have := lt_mkr (by assumption); omega) | (have := ge_mkr (by assumption); omega) | (simp only [List.length_map, List.length_replicate] at *; omega)), (by (try dsimp only); first | omega | exact lt_map (by assumption) | exact ge_map (by assumption) | (have := lt_map (by assumption); omega) | (have := ge_map (by assumption); omega) | (have := lt_mkm (by assumption); omega) | (have := ge_mkm (by assumption); omega) | (have := lt_mkr (by assumption); omega) | (have := ge_mkr (by assumption); omega) | (simp only [List.length_map, List.length_replicate] at *; omega))⟩, ⟨[], rfl, rfl, rfl, ?_, ?_⟩⟩
         | fail))
  · rw [List.length_map]
  · exact Eq.symm (foldl_take _ _ _ (by (try dsimp only); first | omega | exact lt_map (by assumption) | exact ge_map (by assumption) | (have := lt_map (by assumption); omega) | (have := ge_map (by assumption); omega) | (have := lt_mkm (by assumption); omega) | (have := ge_mkm (by assumption); omega) | (have := lt_mkr (by assumption); omega) | (have := ge_mkr (by assumption); omega) | (simp only [List.length_map, List.length_replicate] at *; omega)))
  · rw [take_all xs (by (try dsimp only); first | omega | exact lt_map (by assumption) | exact ge_map (by assumption) | (have := lt_map (by assumption); omega) | (have := ge_map (by assumption); omega) | (have := lt_mkm (by assumption); omega) | (have := ge_mkm (by assumption); omega) | (have := lt_mkr (by assumption); omega) | (have := ge_mkr (by assumption); omega) | (simp only [List.length_map, List.length_replicate] at *; omega))]
theorem c_BytesOf (xs : List DTransfer) (k : Int) (hx : xs.length ≤ 1048576) : FnAt Try.prog 25 [.one (L DTransfer.e xs), .one (I k)] [.one (.s (I (bytesOf k xs)))] := by
  refine fn_of Try.func25 rfl (by kernel_rfl) rfl ?_
  all_goals repeat' (first
    | (with_reducible rfl)
    | (conv => whnf
       first
         | exact trivial
         | (with_reducible rfl)
         | exact (rfl : (0 : Int) = ((0 : Nat) : Int))
         | exact w64_nat (by (try dsimp only); first | omega | exact lt_map (by assumption) | exact ge_map (by assumption) | (have := lt_map (by assumption); omega) | (have := ge_map (by assumption); omega) | (have := lt_mkm (by assumption); omega) | (have := ge_mkm (by assumption); omega) | (have := lt_mkr (by assumption); omega) | (have := ge_mkr (by assumption); omega) | (simp only [List.length_map, List.length_replicate] at *; omega))
         | refine bcase_T (by first | with_reducible rfl | decide) ?_
         | refine bcase_F (by first | with_reducible rfl | decide) ?_
         | refine bcase_dec (fun _ => ?_) (fun _ => ?_)
         | refine bcase_not ?_
         | refine bcase_intro (fun _ => ?_) (fun _ => ?_)
         | refine ⟨(by with_reducible rfl), ?_⟩
         | refine ⟨congrArg vi ?_, ?_⟩
         | refine ⟨congrArg vb ?_, ?_⟩
         | refine ⟨rfl, ?_⟩
         | refine ⟨(by kernel_rfl : drawOK _ = true), ?_⟩
         | refine Or.inl ?_
         | refine ⟨⟨congrArg (T.int _) ?_, rfl⟩, ?_⟩
         | refine ⟨⟨congrArg T.bool ?_, rfl⟩, ?_⟩
         | refine ⟨⟨rfl, Nat.le_of_ble_eq_true rfl⟩, ?_⟩
         | refine ⟨⟨rfl, rfl⟩, ?_⟩
         | refine ⟨⟨rfl, (by decide)⟩, ?_⟩
         | refine ⟨⟨rfl, ?_⟩, ?_⟩
         | refine ⟨Or.inr rfl, ?_⟩
         | refine ⟨Or.inl rfl, ?_⟩
         | refine ⟨⟨⟨rfl, rfl, rfl⟩, ?_⟩, ?_⟩
         | refine ⟨_, _, rfl, row_get _ _ (by (try dsimp only); first | omega | exact lt_map (by assumption) | exact ge_map (by assumption) | (have := lt_map (by assumption); omega) | (have := ge_map (by assumption); omega) | (have := lt_mkm (by assumption); omega) | (have := ge_mkm (by assumption); omega) | (have := lt_mkr (by assumption); omega) | (have := ge_mkr (by assumption); omega) | (simp only [List.length_map, List.length_replicate] at *; omega)), rfl, ?_⟩
         | refine ⟨(?_ : _ = ([] : List (List T))), ?_⟩
         | fail))
  conv => whnf
  refine ⟨Nat, fun i => i ≤ xs.length, fun i => ⟨[(8, vl (xs.map DTransfer.e)), (9, vi xs.length), (1, vi k), (5, vi (bytesOf k (xs.take i))), (10, vi i)], [], 0⟩, fun i => xs.length - i, 0, Nat.zero_le _, ⟨[], rfl, rfl, rfl, ?_, ?_⟩, fun i (hi : i ≤ xs.length) => ?_⟩
  all_goals repeat' (first
    | (with_reducible rfl)
    | (conv => whnf
       first
         | exact trivial
         | (with_reducible rfl)
         | exact (rfl : (0 : Int) = ((0 : Nat) : Int))
         | exact w64_nat (by (try dsimp only); first | omega | exact lt_map (by assumption) | exact ge_map (by assumption) | (have := lt_map (by assumption); omega) | (have := ge_map (by assumption); omega) | (have := lt_mkm (by assumption); omega) | (have := ge_mkm (by assumption); omega) | (have := lt_mkr (by assumption); omega) | (have := ge_mkr (by assumption); omega) | (simp only [List.length_map, List.length_replicate] at *; omega))
         | refine bcase_T (by first | with_reducible rfl | decide) ?_
         | refine bcase_F (by first | with_reducible rfl | decide) ?_
         | refine bcase_dec (fun _ => ?_) (fun _ => ?_)
         | refine bcase_not ?_
         | refine bcase_intro (fun _ => ?_) (fun _ => ?_)
         | refine ⟨(by with_reducible rfl), ?_⟩
         | refine ⟨congrArg vi ?_, ?_⟩
         | refine ⟨congrArg vb ?_, ?_⟩
         | refine ⟨rfl, ?_⟩
         | refine ⟨(by kernel_rfl : drawOK _ = true), ?_⟩
         | refine Or.inl ?_
         | refine ⟨⟨congrArg (T.int _) ?_, rfl⟩, ?_⟩
         | refine ⟨⟨congrArg T.bool ?_, rfl⟩, ?_⟩
         | refine ⟨⟨rfl, Nat.le_of_ble_eq_true rfl⟩, ?_⟩
         | refine ⟨⟨rfl, rfl⟩, ?_⟩
         | refine ⟨⟨rfl, (by decide)⟩, ?_⟩
         | refine ⟨⟨rfl, ?_⟩, ?_⟩
         | refine ⟨Or.inr rfl, ?_⟩
         | refine ⟨Or.inl rfl, ?_⟩
         | refine ⟨⟨⟨rfl, rfl, rfl⟩, ?_⟩, ?_⟩
         | refine ⟨_, _, rfl, row_get _ _ (by (try dsimp only); first | omega | exact lt_map (by assumption) | exact ge_map (by assumption) | (have := lt_map (by assumption); omega) | (have := ge_map (by assumption); omega) | (have := lt_mkm (by assumption); omega) | (have := ge_mkm (by assumption); omega) | (have := lt_mkr (by assumption); omega) | (have := ge_mkr (by assumption); omega) | (simp only [List.length_map, List.length_replicate] at *; omega)), rfl, ?_⟩
         | refine ⟨(?_ : _ = ([] : List (List T))), ?_⟩
         | refine ⟨i + 1, ⟨(by (try dsimp only); first | omega | exact lt_map (by assumption) | exact ge_map (by assumption) | (have := lt_map (by assumption); omega) | (have := ge_map (by assumption); omega) | (have := lt_mkm (by assumption); omega) | (have := ge_mkm (by assumption); omega) | (have := lt_mkr (by assumption); omega) | (have := ge_mkr (by assumption); omega) | (simp only [List.length_map, List.length_replicate] at *; omega)), (by (try dsimp only); first | omega | exact lt_map (by assumption) | exact ge_map (by assumption) | (have := lt_map (by assumption); omega) | (have := ge_map (by assumption); omega) | (have := lt_mkm (by assumption); omega) | (have := ge_mkm (by assumption); omega) | (have := lt_mkr (by assumption); omega) | (have := ge_mkr (by assumption); omega) | (simp only [List.length_map, List.length_replicate] at *; omega))⟩, ⟨[], rfl, rfl, rfl, ?_, ?_⟩⟩
         | fail))
  all_goals first | (rw [List.length_map]) | (rw [take_all xs (by (try dsimp only); first | omega | exact lt_map (by assumption) | exact ge_map (by assumption) | (have := lt_map (by assumption); omega) | (have := ge_map (by assumption); omega) | (have := lt_mkm (by assumption); omega) | (have := ge_mkm (by assumption); omega) | (have := lt_mkr (by assumption); omega) | (have := ge_mkr (by assumption); omega) | (simp only [List.length_map, List.length_replicate] at *; omega))]) | (rw [bytesOf_take k xs (by (try dsimp only); first | omega | exact lt_map (by assumption) | exact ge_map (by assumption) | (have := lt_map (by assumption); omega) | (have := ge_map (by assumption); omega) | (have := lt_mkm (by assumption); omega) | (have := ge_mkm (by assumption); omega) | (have := lt_mkr (by assumption); omega) | (have := ge_mkr (by assumption); omega) | (simp only [List.length_map, List.length_replicate] at *; omega))]; simp_all)
/-- What one node sends and receives. -/
def sumOf (k : Int) : List DTransfer → Int
  | [] => 0
  | x :: xs => (if x.From = k ∨ x.To = k then x.Bytes else 0) + sumOf k xs
def sumAll : List DTransfer → Int
  | [] => 0
  | x :: xs => x.Bytes + sumAll xs
theorem w64_add (a b : Int) : w64 (w64 a + b) = w64 (a + b) := by simp only [w64, IntKind.wrap_i64]; omega
theorem bytesOf_sum (k : Int) : ∀ (xs : List DTransfer) (a : Int), xs.foldl (fun a x => if x.From = k ∨ x.To = k then w64 (a + x.Bytes) else a) (w64 a) = w64 (a + sumOf k xs)
  | [], a => by simp [sumOf]
  | x :: xs, a => by
    rw [List.foldl_cons, sumOf]
    split
    · rw [w64_add, bytesOf_sum k xs, Int.add_assoc]
    · rw [bytesOf_sum k xs]; congr 1; omega
theorem total_sum : ∀ (xs : List DTransfer) (a : Int), xs.foldl (fun a x => w64 (a + x.Bytes)) (w64 a) = w64 (a + sumAll xs)
  | [], a => by simp [sumAll]
  | x :: xs, a => by rw [List.foldl_cons, sumAll, w64_add, total_sum xs, Int.add_assoc]
theorem bytesOf_eq (k : Int) (xs : List DTransfer) : bytesOf k xs = w64 (sumOf k xs) := by
  have := bytesOf_sum k xs 0
  rw [show w64 0 = 0 from rfl, Int.zero_add] at this
  exact this
theorem total_eq (xs : List DTransfer) : total xs = w64 (sumAll xs) := by
  have := total_sum xs 0
  rw [show w64 0 = 0 from rfl, Int.zero_add] at this
  exact this
theorem sumOf_append (k : Int) : ∀ (xs ys : List DTransfer), sumOf k (xs ++ ys) = sumOf k xs + sumOf k ys
  | [], ys => by simp [sumOf]
  | x :: xs, ys => by simp only [List.cons_append, sumOf, sumOf_append k xs ys]; omega
theorem sumAll_append : ∀ (xs ys : List DTransfer), sumAll (xs ++ ys) = sumAll xs + sumAll ys
  | [], ys => by simp [sumAll]
  | x :: xs, ys => by simp only [List.cons_append, sumAll, sumAll_append xs ys]; omega
-- a client's part
theorem sum_wrow_c (r : Int) (a : Nat) (k : Nat) (hk : k < 100) : ∀ n : Nat, sumOf k (wrow r a n) = if a = k then n * shareSize r else 0
  | 0 => by simp [wrow, sumOf]
  | n + 1 => by
    rw [wrow_succ, sumOf_append, sum_wrow_c r a k hk n]
    simp only [sumOf]
    by_cases h : a = k
    · subst h; simp only [if_true, true_or]; rw [Int.natCast_succ, Int.add_mul]; omega
    · rw [if_neg h, if_neg h, if_neg (by omega)]; rfl
theorem sum_wts_c (s : Nat) (r : Int) (k : Nat) (hk : k < 100) : ∀ n : Nat, sumOf k (wts s r n) = if k < n then s * shareSize r else 0
  | 0 => by simp [wts, sumOf]
  | n + 1 => by
    rw [wts_succ, sumOf_append, sum_wts_c s r k hk n, sum_wrow_c r n k hk]
    by_cases h : k < n
    · rw [if_pos h, if_neg (by omega), if_pos (by omega)]; omega
    · by_cases h2 : n = k
      · rw [if_neg h, if_pos h2, if_pos (by omega)]; omega
      · rw [if_neg h, if_neg h2, if_neg (by omega)]; rfl
-- a server's part
theorem sum_wrow_s (r : Int) (a : Nat) (ha : a < 100) (k : Nat) : ∀ n : Nat, sumOf (100 + k) (wrow r a n) = if k < n then shareSize r else 0
  | 0 => by simp [wrow, sumOf]
  | n + 1 => by
    rw [wrow_succ, sumOf_append, sum_wrow_s r a ha k n]
    simp only [sumOf]
    by_cases h : k < n
    · rw [if_pos h, if_neg (by omega), if_pos (by omega)]; omega
    · by_cases h2 : n = k
      · rw [if_neg h, if_pos (by omega), if_pos (by omega)]; omega
      · rw [if_neg h, if_neg (by omega), if_neg (by omega)]; rfl
theorem sum_wts_s (s : Nat) (r : Int) (k : Nat) : ∀ n : Nat, n ≤ 100 → sumOf (100 + k) (wts s r n) = n * (if k < s then shareSize r else 0)
  | 0, _ => by simp [wts, sumOf]
  | n + 1, h => by
    rw [wts_succ, sumOf_append, sum_wts_s s r k n (by omega), sum_wrow_s r n (by omega), Int.natCast_succ, Int.add_mul]; omega
theorem all_wrow (r : Int) (a : Nat) : ∀ n : Nat, sumAll (wrow r a n) = n * shareSize r
  | 0 => by simp [wrow, sumAll]
  | n + 1 => by rw [wrow_succ, sumAll_append, all_wrow r a n]; simp only [sumAll]; rw [Int.natCast_succ, Int.add_mul]; omega
theorem all_wts (s : Nat) (r : Int) : ∀ n : Nat, sumAll (wts s r n) = n * (s * shareSize r)
  | 0 => by simp [wts, sumAll]
  | n + 1 => by rw [wts_succ, sumAll_append, all_wts s r n, all_wrow, Int.natCast_succ, Int.add_mul]; omega
-- reads
theorem sum_rrow_c (r : Int) (a : Nat) (k : Nat) (hk : k < 100) : ∀ n : Nat, sumOf k (rrow r a n) = if a = k then n * (selSize r + 24) else 0
  | 0 => by simp [rrow, sumOf]
  | n + 1 => by
    rw [rrow_succ, sumOf_append, sum_rrow_c r a k hk n]
    simp only [sumOf]
    by_cases h : a = k
    · subst h; simp only [if_true, true_or, or_true]; rw [Int.natCast_succ, Int.add_mul]; omega
    · rw [if_neg h, if_neg h, if_neg (by omega), if_neg (by omega)]; rfl
theorem sum_rrep_c (s : Nat) (r : Int) (a : Nat) (k : Nat) (hk : k < 100) : ∀ n : Nat, sumOf k (rrep s r a n) = if a = k then n * (s * (selSize r + 24)) else 0
  | 0 => by simp [rrep, sumOf]
  | n + 1 => by
    rw [rrep_succ, sumOf_append, sum_rrep_c s r a k hk n, sum_rrow_c r a k hk]
    by_cases h : a = k
    · rw [if_pos h, if_pos h, if_pos h, Int.natCast_succ, Int.add_mul]; omega
    · rw [if_neg h, if_neg h, if_neg h]; rfl
theorem sum_rts_c (s : Nat) (r : Int) (m : Nat) (k : Nat) (hk : k < 100) : ∀ n : Nat, sumOf k (rts s r m n) = if k < n then m * (s * (selSize r + 24)) else 0
  | 0 => by simp [rts, sumOf]
  | n + 1 => by
    rw [rts_succ, sumOf_append, sum_rts_c s r m k hk n, sum_rrep_c s r n k hk]
    by_cases h : k < n
    · rw [if_pos h, if_neg (by omega), if_pos (by omega)]; omega
    · by_cases h2 : n = k
      · rw [if_neg h, if_pos h2, if_pos (by omega)]; omega
      · rw [if_neg h, if_neg h2, if_neg (by omega)]; rfl
theorem all_rrow (r : Int) (a : Nat) : ∀ n : Nat, sumAll (rrow r a n) = n * (selSize r + 24)
  | 0 => by simp [rrow, sumAll]
  | n + 1 => by rw [rrow_succ, sumAll_append, all_rrow r a n]; simp only [sumAll]; rw [Int.natCast_succ, Int.add_mul]; omega
theorem all_rrep (s : Nat) (r : Int) (a : Nat) : ∀ n : Nat, sumAll (rrep s r a n) = n * (s * (selSize r + 24))
  | 0 => by simp [rrep, sumAll]
  | n + 1 => by rw [rrep_succ, sumAll_append, all_rrep s r a n, all_rrow, Int.natCast_succ, Int.add_mul]; omega
theorem all_rts (s : Nat) (r : Int) (m : Nat) : ∀ n : Nat, sumAll (rts s r m n) = n * (m * (s * (selSize r + 24)))
  | 0 => by simp [rts, sumAll]
  | n + 1 => by rw [rts_succ, sumAll_append, all_rts s r m n, all_rrep, Int.natCast_succ, Int.add_mul]; omega
-- published
theorem sum_prow (r : Int) (a k : Nat) : ∀ n : Nat, sumOf (100 + k) (prow r a n) = if a = k then (if a < n then (n : Int) - 1 else n) * shareSize r else if k < n then shareSize r else 0
  | 0 => by simp [prow, sumOf]
  | n + 1 => by
    rw [prow_succ, sumOf_append, sum_prow r a k n]
    by_cases h : a = n
    · subst h
      simp only [if_true, sumOf]
      by_cases h2 : a = k
      · subst h2
        rw [if_pos rfl, if_pos rfl, if_neg (by omega), if_pos (by omega)]
        simp
      · rw [if_neg h2, if_neg h2]
        by_cases h3 : k < a
        · rw [if_pos h3, if_pos (by omega)]; omega
        · rw [if_neg h3, if_neg (by omega)]; omega
    · rw [if_neg h]
      simp only [sumOf]
      by_cases h2 : a = k
      · subst h2
        rw [if_pos rfl, if_pos rfl, if_pos (Or.inl rfl)]
        by_cases h3 : a < n
        · rw [if_pos h3, if_pos (by omega)]
          have e : ((n + 1 : Nat) : Int) - 1 = ((n : Int) - 1) + 1 := by omega
          rw [e, Int.add_mul]; omega
        · rw [if_neg h3, if_neg (by omega), Int.natCast_succ, Int.add_mul]; omega
      · rw [if_neg h2, if_neg h2]
        by_cases h3 : k < n
        · rw [if_pos h3, if_neg (by omega), if_pos (by omega)]; omega
        · by_cases h4 : k = n
          · rw [if_neg h3, if_pos (by omega), if_pos (by omega)]; omega
          · rw [if_neg h3, if_neg (by omega), if_neg (by omega)]; omega
theorem sum_pts (s : Nat) (r : Int) (k : Nat) (hk : k < s) : ∀ n : Nat, n ≤ s → sumOf (100 + k) (pts s r n) = (if k < n then (n : Int) - 1 + (s - 1) else n) * shareSize r
  | 0, _ => by simp [pts, sumOf]
  | n + 1, h => by
    rw [pts_succ, sumOf_append, sum_pts s r k hk n (by omega), sum_prow]
    by_cases h1 : k < n
    · rw [if_pos h1, if_neg (by omega), if_pos hk, if_pos (by omega)]
      have e : ((n + 1 : Nat) : Int) - 1 + (s - 1) = ((n : Int) - 1 + (s - 1)) + 1 := by omega
      rw [e, Int.add_mul _ 1]; omega
    · by_cases h2 : n = k
      · subst h2
        rw [if_neg h1, if_pos rfl, if_pos hk, if_pos (by omega), ← Int.add_mul]
        congr 1; omega
      · rw [if_neg h1, if_neg h2, if_pos hk, if_neg (by omega), Int.natCast_succ, Int.add_mul]; omega
theorem all_prow (r : Int) (a : Nat) : ∀ n : Nat, sumAll (prow r a n) = (if a < n then (n : Int) - 1 else n) * shareSize r
  | 0 => by simp [prow, sumAll]
  | n + 1 => by
    rw [prow_succ, sumAll_append, all_prow r a n]
    by_cases h : a = n
    · subst h
      rw [if_pos rfl, if_neg (by omega), if_pos (by omega)]
      simp [sumAll]
    · rw [if_neg h]
      simp only [sumAll]
      by_cases h3 : a < n
      · rw [if_pos h3, if_pos (by omega)]
        have e : ((n + 1 : Nat) : Int) - 1 = ((n : Int) - 1) + 1 := by omega
        rw [e, Int.add_mul]; omega
      · rw [if_neg h3, if_neg (by omega), Int.natCast_succ, Int.add_mul]; omega
theorem all_pts (s : Nat) (r : Int) : ∀ n : Nat, n ≤ s → sumAll (pts s r n) = n * (((s : Int) - 1) * shareSize r)
  | 0, _ => by simp [pts, sumAll]
  | n + 1, h => by
    rw [pts_succ, sumAll_append, all_pts s r n (by omega), all_prow, if_pos (by omega), Int.natCast_succ, Int.add_mul]; omega

/-- A byte of the input, or what stands in its place. -/
def atv (x : List Int) (i : Nat) : Int := if h : i < x.length then x[i] else ((i * 31 + x.length * 7) % 256 : Nat)
theorem atv_ok {x : List Int} (h : ∀ a ∈ x, okU a) (i : Nat) : 0 ≤ atv x i ∧ atv x i ≤ 255 := by
  unfold atv
  split
  · exact h _ (List.getElem_mem _)
  · omega
theorem c_big (x : List Int) (_hx : x.length ≤ maxLen) : FnAt Try.prog 32 [.one (L eU x)] [.one (.s (.bool (decide (1048576 < (x.length : Int)))))] := by
  refine fn_of Try.func32 rfl (by kernel_rfl) rfl ?_
  all_goals repeat' (first
    | (with_reducible rfl)
    | (conv => whnf
       first
         | exact trivial
         | (with_reducible rfl)
         | exact (rfl : (0 : Int) = ((0 : Nat) : Int))
         | exact w64_nat (by (try dsimp only); first | omega | exact lt_map (by assumption) | exact ge_map (by assumption) | (have := lt_map (by assumption); omega) | (have := ge_map (by assumption); omega) | (have := lt_mkm (by assumption); omega) | (have := ge_mkm (by assumption); omega) | (have := lt_mkr (by assumption); omega) | (have := ge_mkr (by assumption); omega) | (simp only [List.length_map, List.length_replicate] at *; omega))
         | refine bcase_T (by first | with_reducible rfl | decide) ?_
         | refine bcase_F (by first | with_reducible rfl | decide) ?_
         | refine bcase_dec (fun _ => ?_) (fun _ => ?_)
         | refine bcase_not ?_
         | refine bcase_intro (fun _ => ?_) (fun _ => ?_)
         | refine ⟨(by with_reducible rfl), ?_⟩
         | refine ⟨congrArg vi ?_, ?_⟩
         | refine ⟨congrArg vb ?_, ?_⟩
         | refine ⟨rfl, ?_⟩
         | refine ⟨(by kernel_rfl : drawOK _ = true), ?_⟩
         | refine Or.inl ?_
         | refine ⟨⟨congrArg (T.int _) ?_, rfl⟩, ?_⟩
         | refine ⟨⟨congrArg T.bool ?_, rfl⟩, ?_⟩
         | refine ⟨⟨rfl, Nat.le_of_ble_eq_true rfl⟩, ?_⟩
         | refine ⟨⟨rfl, rfl⟩, ?_⟩
         | refine ⟨⟨rfl, (by decide)⟩, ?_⟩
         | refine ⟨⟨rfl, ?_⟩, ?_⟩
         | refine ⟨Or.inr rfl, ?_⟩
         | refine ⟨Or.inl rfl, ?_⟩
         | refine ⟨⟨⟨rfl, rfl, rfl⟩, ?_⟩, ?_⟩
         | refine ⟨_, _, rfl, row_get _ _ (by (try dsimp only); first | omega | exact lt_map (by assumption) | exact ge_map (by assumption) | (have := lt_map (by assumption); omega) | (have := ge_map (by assumption); omega) | (have := lt_mkm (by assumption); omega) | (have := ge_mkm (by assumption); omega) | (have := lt_mkr (by assumption); omega) | (have := ge_mkr (by assumption); omega) | (simp only [List.length_map, List.length_replicate] at *; omega)), rfl, ?_⟩
         | refine ⟨(?_ : _ = ([] : List (List T))), ?_⟩
         | fail))
  all_goals simp
theorem c_at (x : List Int) (i : Nat) (hx : x.length ≤ 1048576) (hi : i ≤ 1000) (hu : ∀ a ∈ x, okU a) : FnAt Try.prog 33 [.one (L eU x), .one (I i)] [.one (.s (I (atv x i)))] := by
  refine fn_of Try.func33 rfl (by kernel_rfl) rfl ?_
  all_goals repeat' (first
    | (with_reducible rfl)
    | (conv => whnf
       first
         | exact trivial
         | (with_reducible rfl)
         | exact (rfl : (0 : Int) = ((0 : Nat) : Int))
         | exact w64_nat (by (try dsimp only); first | omega | exact lt_map (by assumption) | exact ge_map (by assumption) | (have := lt_map (by assumption); omega) | (have := ge_map (by assumption); omega) | (have := lt_mkm (by assumption); omega) | (have := ge_mkm (by assumption); omega) | (have := lt_mkr (by assumption); omega) | (have := ge_mkr (by assumption); omega) | (simp only [List.length_map] at *; omega))
         | refine bcase_T (by first | with_reducible rfl | decide) ?_
         | refine bcase_F (by first | with_reducible rfl | decide) ?_
         | refine bcase_dec (fun _ => ?_) (fun _ => ?_)
         | refine bcase_not ?_
         | refine bcase_intro (fun _ => ?_) (fun _ => ?_)
         | refine ⟨(by with_reducible rfl), ?_⟩
         | refine ⟨congrArg vi ?_, ?_⟩
         | refine ⟨congrArg vb ?_, ?_⟩
         | refine ⟨rfl, ?_⟩
         | refine ⟨(by kernel_rfl : drawOK _ = true), ?_⟩
         | refine Or.inl ?_
         | refine ⟨⟨congrArg (T.int _) ?_, rfl⟩, ?_⟩
         | refine ⟨⟨congrArg T.bool ?_, rfl⟩, ?_⟩
         | refine ⟨⟨rfl, Nat.le_of_ble_eq_true rfl⟩, ?_⟩
         | refine ⟨⟨rfl, rfl⟩, ?_⟩
         | refine ⟨⟨rfl, (by decide)⟩, ?_⟩
         | refine ⟨⟨rfl, ?_⟩, ?_⟩
         | refine ⟨Or.inr rfl, ?_⟩
         | refine ⟨Or.inl rfl, ?_⟩
         | refine ⟨⟨⟨rfl, rfl, rfl⟩, ?_⟩, ?_⟩
         | refine ⟨_, _, rfl, row_get _ _ (by (try dsimp only); first | omega | exact lt_map (by assumption) | exact ge_map (by assumption) | (have := lt_map (by assumption); omega) | (have := ge_map (by assumption); omega) | (have := lt_mkm (by assumption); omega) | (have := ge_mkm (by assumption); omega) | (have := lt_mkr (by assumption); omega) | (have := ge_mkr (by assumption); omega) | (simp only [List.length_map, List.length_replicate] at *; omega)), rfl, ?_⟩
         | refine ⟨(?_ : _ = ([] : List (List T))), ?_⟩
         | refine ⟨i, _, rfl, row_get _ _ (by (try dsimp only); first | omega | exact lt_map (by assumption) | exact ge_map (by assumption) | (have := lt_map (by assumption); omega) | (have := ge_map (by assumption); omega) | (have := lt_mkm (by assumption); omega) | (have := ge_mkm (by assumption); omega) | (have := lt_mkr (by assumption); omega) | (have := ge_mkr (by assumption); omega) | (simp only [List.length_map, List.length_replicate] at *; omega)), rfl, ?_⟩
         | refine ⟨(by decide), ?_⟩
         | fail))
  · have h0 := lt_map (by assumption)
    have := hu _ (List.getElem_mem h0)
    rw [atv, dif_pos h0, w64_ok (by unfold okU at this; omega) (by unfold okU at this; omega)]
  · have h0 := ge_map (by assumption)
    rw [atv, dif_neg (by omega), List.length_map, w64_ok (n := (i : Int) * 31) (by omega) (by omega), w64_ok (n := (x.length : Int) * 7) (by omega) (by omega), w64_ok (by omega) (by omega), Int.tmod_eq_emod_of_nonneg (by omega)]
    omega
theorem tmod_nat {a : Int} (h : 0 ≤ a) (m : Nat) (hm : 0 < m) : ∃ n : Nat, a.tmod m = n ∧ n < m := by
  obtain ⟨b, rfl⟩ := Int.eq_ofNat_of_zero_le h
  exact ⟨b % m, by rw [Int.tmod_eq_emod_of_nonneg (by omega)]; omega, Nat.mod_lt _ hm⟩
theorem fin1 {c s r : Nat} (h1 : c < 9) (h2 : 2 ≤ s) (h3 : s ≤ 4) (h4 : 1 ≤ r) (h5 : r ≤ 64) : w64 (c * (s * shareSize r)) = w64 (w64 (w64 ((c : Int) * s) * r) * 24) := by
  have e : shareSize r = r * 24 := by unfold shareSize; split <;> omega
  obtain rfl | rfl | rfl : s = 2 ∨ s = 3 ∨ s = 4 := by omega
  all_goals obtain rfl | rfl | rfl | rfl | rfl | rfl | rfl | rfl | rfl : c = 0 ∨ c = 1 ∨ c = 2 ∨ c = 3 ∨ c = 4 ∨ c = 5 ∨ c = 6 ∨ c = 7 ∨ c = 8 := by omega
  all_goals (rw [e]; simp only [w64, IntKind.wrap_i64]; omega)
theorem fin2 {c s r : Nat} (h1 : c < 9) (h2 : 2 ≤ s) (h3 : s ≤ 4) (h4 : 1 ≤ r) (h5 : r ≤ 64) : w64 (c * (((2 : Nat) : Int) * (s * (selSize r + 24)))) = w64 (w64 (w64 (2 * (c : Int)) * s) * w64 (selSize r + 24)) := by
  have e : 0 ≤ selSize r ∧ selSize r ≤ 100 := by unfold selSize; split <;> omega
  generalize selSize (r : Int) = z at e
  have e2 : w64 (w64 (2 * (c : Int)) * s) = ((2 * c * s : Nat) : Int) := by
    obtain rfl | rfl | rfl : s = 2 ∨ s = 3 ∨ s = 4 := by omega
    all_goals (simp only [w64, IntKind.wrap_i64]; omega)
  rw [e2]
  obtain rfl | rfl | rfl : s = 2 ∨ s = 3 ∨ s = 4 := by omega
  all_goals obtain rfl | rfl | rfl | rfl | rfl | rfl | rfl | rfl | rfl : c = 0 ∨ c = 1 ∨ c = 2 ∨ c = 3 ∨ c = 4 ∨ c = 5 ∨ c = 6 ∨ c = 7 ∨ c = 8 := by omega
  all_goals (rw [show w64 (z + 24) = z + 24 from w64_ok (by omega) (by omega)]; simp only [w64, IntKind.wrap_i64]; omega)
theorem fin3 {s r : Nat} (h2 : 2 ≤ s) (h3 : s ≤ 4) : w64 (s * (((s : Int) - 1) * shareSize r)) = w64 (w64 ((s : Int) * w64 ((s : Int) - 1)) * shareSize r) := by
  have e := shareSize_len r
  generalize shareSize (r : Int) = z at e
  obtain rfl | rfl | rfl : s = 2 ∨ s = 3 ∨ s = 4 := by omega
  all_goals (first | (rw [show w64 (((2 : Nat) : Int) * w64 (((2 : Nat) : Int) - 1)) = 2 from by decide]) | (rw [show w64 (((3 : Nat) : Int) * w64 (((3 : Nat) : Int) - 1)) = 6 from by decide]) | (rw [show w64 (((4 : Nat) : Int) * w64 (((4 : Nat) : Int) - 1)) = 12 from by decide]))
  all_goals (simp only [w64, IntKind.wrap_i64]; omega)
theorem c_FnTraffic (a0 : List Int) (k0 : okL okU a0) : FnAt Try.prog 9 [.one (L eU a0)] [.one (.s (.bool true))] := by
  obtain ⟨k1, k2⟩ := k0
  obtain ⟨c, hc, hc2⟩ := tmod_nat (atv_ok k2 0).1 9 (by decide)
  obtain ⟨s', hs, hs2⟩ := tmod_nat (atv_ok k2 1).1 3 (by decide)
  obtain ⟨r', hr, hr2⟩ := tmod_nat (atv_ok k2 2).1 64 (by decide)
  have hs3 : w64 (2 + (atv a0 1).tmod 3) = ((2 + s' : Nat) : Int) := by rw [show (atv a0 1).tmod 3 = (s' : Int) from hs]; exact (w64_ok (by omega) (by omega)).trans (by omega)
  have hr3 : w64 (1 + (atv a0 2).tmod 64) = ((1 + r' : Nat) : Int) := by rw [show (atv a0 2).tmod 64 = (r' : Int) from hr]; exact (w64_ok (by omega) (by omega)).trans (by omega)
  have hc3 : (atv a0 0).tmod 9 = (c : Int) := hc
  generalize hsd : 2 + s' = s at *
  generalize hrr : 1 + r' = r at *
  have hok : okSz c s r = true := okSz_iff.2 (by omega)
  have hok0 : okSz 0 s r = true := okSz_iff.2 (by omega)
  have hw : writeTransfers (c : Int) (s : Int) r = wts s r c := by rw [writeTransfers, if_pos hok]; rfl
  have hrd : readTransfers (c : Int) (s : Int) r 1 = rts s r 2 c := by rw [readTransfers, if_pos (by rw [hok]; rfl)]; rfl
  have hp : publishTransfers (s : Int) r = pts s r s := by rw [publishTransfers, if_pos hok0]; rfl
  have lw := writeTransfers_len c s r
  have lr := readTransfers_len c s r 1
  have lp := publishTransfers_len s r
  have b1 : ∀ i : Nat, i < c → bytesOf i (writeTransfers c s r) = bytesOf 0 (writeTransfers c s r) := fun i h => by
    have e := sum_wts_c s r 0 (by omega) c
    rw [hw, bytesOf_eq, bytesOf_eq, sum_wts_c s r i (by omega) c, if_pos h]
    rw [if_pos (by omega)] at e
    exact congrArg w64 e.symm
  have b2 : ∀ i : Nat, i < c → bytesOf i (readTransfers c s r 1) = bytesOf 0 (readTransfers c s r 1) := fun i h => by
    have e := sum_rts_c s r 2 0 (by omega) c
    rw [hrd, bytesOf_eq, bytesOf_eq, sum_rts_c s r 2 i (by omega) c, if_pos h]
    rw [if_pos (by omega)] at e
    exact congrArg w64 e.symm
  have b3 : ∀ i : Nat, i < s → bytesOf (w64 (100 + i)) (writeTransfers c s r) = bytesOf 100 (writeTransfers c s r) := fun i h => by
    have e := sum_wts_s s r 0 c (by omega)
    rw [show w64 (100 + (i : Int)) = 100 + i from w64_ok (by omega) (by omega), hw, bytesOf_eq, bytesOf_eq, sum_wts_s s r i c (by omega), if_pos h]
    rw [if_pos (by omega)] at e
    exact congrArg w64 e.symm
  have b4 : ∀ i : Nat, i < s → bytesOf (w64 (100 + i)) (publishTransfers s r) = bytesOf 100 (publishTransfers s r) := fun i h => by
    have e := sum_pts s r 0 (by omega) s (by omega)
    rw [show w64 (100 + (i : Int)) = 100 + i from w64_ok (by omega) (by omega), hp, bytesOf_eq, bytesOf_eq, sum_pts s r i h s (by omega), if_pos h]
    rw [if_pos (by omega)] at e
    exact congrArg w64 e.symm
  have b5 : total (writeTransfers c s r) = w64 (w64 (w64 ((c : Int) * s) * r) * 24) := by
    rw [hw, total_eq, all_wts]; exact fin1 hc2 (by omega) (by omega) (by omega) (by omega)
  have b6 : total (readTransfers c s r 1) = w64 (w64 (w64 (2 * (c : Int)) * s) * w64 (selSize r + 24)) := by
    rw [hrd, total_eq, all_rts]; exact fin2 hc2 (by omega) (by omega) (by omega) (by omega)
  have b7 : total (publishTransfers s r) = w64 (w64 ((s : Int) * w64 ((s : Int) - 1)) * shareSize r) := by
    rw [hp, total_eq, all_pts _ _ _ (Nat.le_refl _)]; exact fin3 (by omega) (by omega)
  refine fn_of Try.func9 rfl (by kernel_rfl) rfl ?_
  all_goals repeat' (first
    | (with_reducible rfl)
    | (conv => whnf
       first
         | exact trivial
         | (with_reducible rfl)
         | exact (rfl : (0 : Int) = ((0 : Nat) : Int))
         | exact w64_nat (by (try dsimp only); first | omega | exact lt_map (by assumption) | exact ge_map (by assumption) | (have := lt_map (by assumption); omega) | (have := ge_map (by assumption); omega) | (have := lt_mkm (by assumption); omega) | (have := ge_mkm (by assumption); omega) | (have := lt_mkr (by assumption); omega) | (have := ge_mkr (by assumption); omega) | (simp only [List.length_map, List.length_replicate] at *; omega))
         | refine bcase_T (by first | with_reducible rfl | decide) ?_
         | refine bcase_F (by first | with_reducible rfl | decide) ?_
         | refine bcase_dec (fun _ => ?_) (fun _ => ?_)
         | refine bcase_not ?_
         | refine bcase_intro (fun _ => ?_) (fun _ => ?_)
         | refine ⟨(by with_reducible rfl), ?_⟩
         | refine ⟨congrArg vi ?_, ?_⟩
         | refine ⟨congrArg vb ?_, ?_⟩
         | refine ⟨rfl, ?_⟩
         | refine ⟨(by kernel_rfl : drawOK _ = true), ?_⟩
         | refine Or.inl ?_
         | refine ⟨⟨congrArg (T.int _) ?_, rfl⟩, ?_⟩
         | refine ⟨⟨congrArg T.bool ?_, rfl⟩, ?_⟩
         | refine ⟨⟨rfl, Nat.le_of_ble_eq_true rfl⟩, ?_⟩
         | refine ⟨⟨rfl, rfl⟩, ?_⟩
         | refine ⟨⟨rfl, (by decide)⟩, ?_⟩
         | refine ⟨⟨rfl, ?_⟩, ?_⟩
         | refine ⟨Or.inr rfl, ?_⟩
         | refine ⟨Or.inl rfl, ?_⟩
         | refine ⟨⟨⟨rfl, rfl, rfl⟩, ?_⟩, ?_⟩
         | refine ⟨_, _, rfl, row_get _ _ (by (try dsimp only); first | omega | exact lt_map (by assumption) | exact ge_map (by assumption) | (have := lt_map (by assumption); omega) | (have := ge_map (by assumption); omega) | (have := lt_mkm (by assumption); omega) | (have := ge_mkm (by assumption); omega) | (have := lt_mkr (by assumption); omega) | (have := ge_mkr (by assumption); omega) | (simp only [List.length_map, List.length_replicate] at *; omega)), rfl, ?_⟩
         | refine ⟨(?_ : _ = ([] : List (List T))), ?_⟩
         | refine ⟨_, c_big _ k1, ?_⟩
         | refine ⟨_, c_at a0 0 (by omega) (by omega) k2, ?_⟩
         | refine ⟨_, c_at a0 1 (by omega) (by omega) k2, ?_⟩
         | refine ⟨_, c_at a0 2 (by omega) (by omega) k2, ?_⟩
         | refine ⟨_, c_WriteTransfers _ _ _, ?_⟩
         | refine ⟨_, c_ReadTransfers _ _ _ _, ?_⟩
         | refine ⟨_, c_PublishTransfers _ _, ?_⟩
         | refine ⟨(by decide), ?_⟩
         | fail))
  have g1 : IntKind.i64.wrap (2 + (atv a0 1).tmod 3) = (s : Int) := hs3
  have g2 : IntKind.i64.wrap (1 + (atv a0 2).tmod 64) = (r : Int) := hr3
  conv => whnf
  refine ⟨Nat, fun i => 1 ≤ i ∧ i ≤ c + 1, fun i => ⟨[(3, vi c), (4, vi s), (5, vi r), (6, .c (.ref 0)), (7, .c (.ref 1)), (8, .c (.ref 2)), (9, vi i)], [(0, .row true true 3 ((writeTransfers c s r).map DTransfer.e)), (1, .row true true 3 ((readTransfers c s r 1).map DTransfer.e)), (2, .row true true 3 ((publishTransfers s r).map DTransfer.e))], 3⟩, fun i => c + 1 - i, 1, ⟨by omega, by omega⟩, sub_at [(0, 6), (1, 7), (2, 8)] rfl rfl rfl ?_ ?_, fun i hi => ?_⟩
  all_goals repeat' (first
    | (with_reducible rfl)
    | (conv => whnf
       first
         | exact trivial
         | (with_reducible rfl)
         | exact (rfl : (0 : Int) = ((0 : Nat) : Int))
         | exact w64_nat (by (try dsimp only); first | omega | exact lt_map (by assumption) | exact ge_map (by assumption) | (have := lt_map (by assumption); omega) | (have := ge_map (by assumption); omega) | (have := lt_mkm (by assumption); omega) | (have := ge_mkm (by assumption); omega) | (have := lt_mkr (by assumption); omega) | (have := ge_mkr (by assumption); omega) | (simp only at *; omega))
         | refine bcase_T (by first | with_reducible rfl | decide) ?_
         | refine bcase_F (by first | with_reducible rfl | decide) ?_
         | refine bcase_dec (fun _ => ?_) (fun _ => ?_)
         | refine bcase_not ?_
         | refine bcase_intro (fun _ => ?_) (fun _ => ?_)
         | refine ⟨(by with_reducible rfl), ?_⟩
         | refine ⟨congrArg vi ?_, ?_⟩
         | refine ⟨congrArg vb ?_, ?_⟩
         | refine ⟨rfl, ?_⟩
         | refine ⟨(by kernel_rfl : drawOK _ = true), ?_⟩
         | refine Or.inl ?_
         | refine ⟨⟨congrArg (T.int _) ?_, rfl⟩, ?_⟩
         | refine ⟨⟨congrArg T.bool ?_, rfl⟩, ?_⟩
         | refine ⟨⟨rfl, Nat.le_of_ble_eq_true rfl⟩, ?_⟩
         | refine ⟨⟨rfl, rfl⟩, ?_⟩
         | refine ⟨⟨rfl, (by decide)⟩, ?_⟩
         | refine ⟨⟨rfl, ?_⟩, ?_⟩
         | refine ⟨Or.inr rfl, ?_⟩
         | refine ⟨Or.inl rfl, ?_⟩
         | refine ⟨⟨⟨rfl, rfl, rfl⟩, ?_⟩, ?_⟩
         | refine ⟨_, _, rfl, row_get _ _ (by (try dsimp only); first | omega | exact lt_map (by assumption) | exact ge_map (by assumption) | (have := lt_map (by assumption); omega) | (have := ge_map (by assumption); omega) | (have := lt_mkm (by assumption); omega) | (have := ge_mkm (by assumption); omega) | (have := lt_mkr (by assumption); omega) | (have := ge_mkr (by assumption); omega) | (simp only [List.length_map, List.length_replicate] at *; omega)), rfl, ?_⟩
         | refine ⟨(?_ : _ = ([] : List (List T))), ?_⟩
         | refine ⟨i + 1, ⟨(by (try dsimp only); first | omega | exact lt_map (by assumption) | exact ge_map (by assumption) | (have := lt_map (by assumption); omega) | (have := ge_map (by assumption); omega) | (have := lt_mkm (by assumption); omega) | (have := ge_mkm (by assumption); omega) | (have := lt_mkr (by assumption); omega) | (have := ge_mkr (by assumption); omega) | (simp only [List.length_map, List.length_replicate] at *; omega)), (by (try dsimp only); first | omega | exact lt_map (by assumption) | exact ge_map (by assumption) | (have := lt_map (by assumption); omega) | (have := ge_map (by assumption); omega) | (have := lt_mkm (by assumption); omega) | (have := ge_mkm (by assumption); omega) | (have := lt_mkr (by assumption); omega) | (have := ge_mkr (by assumption); omega) | (simp only [List.length_map, List.length_replicate] at *; omega))⟩, sub_at [(0, 6), (1, 7), (2, 8)] rfl rfl rfl ?_ ?_⟩
         | refine ⟨_, c_BytesOf _ _ (by omega), ?_⟩
         | fail))
  all_goals (first | (with_reducible rfl) | (exact (rfl : (1 : Int) = ((1 : Nat) : Int))) | (rw [hc3]; done) | (rw [g1]; done) | (rw [g2]; done) | (rw [hc3, g1, g2]; done) | (rw [g1, g2]; done) | (exfalso; have := b1 i (by omega); have := b2 i (by omega); simp_all; done) | skip)
  conv => whnf
  refine ⟨Nat, fun i => 1 ≤ i ∧ i ≤ s + 1, fun i => ⟨[(3, vi c), (4, vi s), (5, vi r), (6, .c (.ref 0)), (7, .c (.ref 1)), (8, .c (.ref 2)), (10, vi i)], [(0, .row true true 3 ((writeTransfers c s r).map DTransfer.e)), (1, .row true true 3 ((readTransfers c s r 1).map DTransfer.e)), (2, .row true true 3 ((publishTransfers s r).map DTransfer.e))], 3⟩, fun i => s + 1 - i, 1, ⟨by omega, by omega⟩, sub_at [(0, 6), (1, 7), (2, 8)] rfl rfl rfl ?_ ?_, fun i hi => ?_⟩
  all_goals repeat' (first
    | (with_reducible rfl)
    | (conv => whnf
       first
         | exact trivial
         | (with_reducible rfl)
         | exact (rfl : (0 : Int) = ((0 : Nat) : Int))
         | exact w64_nat (by (try dsimp only); first | omega | exact lt_map (by assumption) | exact ge_map (by assumption) | (have := lt_map (by assumption); omega) | (have := ge_map (by assumption); omega) | (have := lt_mkm (by assumption); omega) | (have := ge_mkm (by assumption); omega) | (have := lt_mkr (by assumption); omega) | (have := ge_mkr (by assumption); omega) | (simp only at *; omega))
         | refine bcase_T (by first | with_reducible rfl | decide) ?_
         | refine bcase_F (by first | with_reducible rfl | decide) ?_
         | refine bcase_dec (fun _ => ?_) (fun _ => ?_)
         | refine bcase_not ?_
         | refine bcase_intro (fun _ => ?_) (fun _ => ?_)
         | refine ⟨(by with_reducible rfl), ?_⟩
         | refine ⟨congrArg vi ?_, ?_⟩
         | refine ⟨congrArg vb ?_, ?_⟩
         | refine ⟨rfl, ?_⟩
         | refine ⟨(by kernel_rfl : drawOK _ = true), ?_⟩
         | refine Or.inl ?_
         | refine ⟨⟨congrArg (T.int _) ?_, rfl⟩, ?_⟩
         | refine ⟨⟨congrArg T.bool ?_, rfl⟩, ?_⟩
         | refine ⟨⟨rfl, Nat.le_of_ble_eq_true rfl⟩, ?_⟩
         | refine ⟨⟨rfl, rfl⟩, ?_⟩
         | refine ⟨⟨rfl, (by decide)⟩, ?_⟩
         | refine ⟨⟨rfl, ?_⟩, ?_⟩
         | refine ⟨Or.inr rfl, ?_⟩
         | refine ⟨Or.inl rfl, ?_⟩
         | refine ⟨⟨⟨rfl, rfl, rfl⟩, ?_⟩, ?_⟩
         | refine ⟨_, _, rfl, row_get _ _ (by (try dsimp only); first | omega | exact lt_map (by assumption) | exact ge_map (by assumption) | (have := lt_map (by assumption); omega) | (have := ge_map (by assumption); omega) | (have := lt_mkm (by assumption); omega) | (have := ge_mkm (by assumption); omega) | (have := lt_mkr (by assumption); omega) | (have := ge_mkr (by assumption); omega) | (simp only [List.length_map, List.length_replicate] at *; omega)), rfl, ?_⟩
         | refine ⟨(?_ : _ = ([] : List (List T))), ?_⟩
         | refine ⟨i + 1, ⟨(by (try dsimp only); first | omega | exact lt_map (by assumption) | exact ge_map (by assumption) | (have := lt_map (by assumption); omega) | (have := ge_map (by assumption); omega) | (have := lt_mkm (by assumption); omega) | (have := ge_mkm (by assumption); omega) | (have := lt_mkr (by assumption); omega) | (have := ge_mkr (by assumption); omega) | (simp only [List.length_map, List.length_replicate] at *; omega)), (by (try dsimp only); first | omega | exact lt_map (by assumption) | exact ge_map (by assumption) | (have := lt_map (by assumption); omega) | (have := ge_map (by assumption); omega) | (have := lt_mkm (by assumption); omega) | (have := ge_mkm (by assumption); omega) | (have := lt_mkr (by assumption); omega) | (have := ge_mkr (by assumption); omega) | (simp only [List.length_map, List.length_replicate] at *; omega))⟩, sub_at [(0, 6), (1, 7), (2, 8)] rfl rfl rfl ?_ ?_⟩
         | refine ⟨_, c_BytesOf _ _ (by omega), ?_⟩
         | refine ⟨_, c_TotalBytes _ (by omega), ?_⟩
         | refine ⟨_, c_SelectionSize _, ?_⟩
         | refine ⟨_, c_ShareSize _, ?_⟩
         | refine ⟨_, c_EqualTransfers _ _ (by omega) (by omega), ?_⟩
         | fail))
  all_goals (first | (exfalso; have := b3 i (by omega); have := b4 i (by omega); simp_all; done) | skip)
  all_goals first | (exact (rfl : (1 : Int) = ((1 : Nat) : Int))) | (exact eqL_refl (fun y => by simp [DTransfer.eqb]) _) | (exact absurd b5 (by assumption)) | (exact absurd b6 (by assumption)) | (exact absurd b7 (by assumption))
end Go.Proofs.Ytkjheelgilffiaa
