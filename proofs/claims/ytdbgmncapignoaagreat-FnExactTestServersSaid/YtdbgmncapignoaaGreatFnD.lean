/-
  Contracts: databases, archives.
  Conditions: none.
-/
import Derived.Test.YtdbgmncapignoaaGreatFnL
import Derived.Test.YtdbgmncapignoaaGreatFnM
import Derived.Test.YtdbgmncapignoaaGreatFnA
import Derived.Test.YtdbgmncapignoaaGreatFnH
namespace Go.Proofs.YtdbgmncapignoaaGreat
set_option maxHeartbeats 4000000
set_option maxRecDepth 20000
open Go.Vm Go.RowKit
attribute [local irreducible] FnAt MutAt InAt JAt CurAt

theorem lenm {α β : Type} (f : α → β) (l : List α) : (l.map f).length = l.length := List.length_map f
def rowBad (b : List UInt8) : Bool := !decide ((b.length : Int) = 24)
def dbOk (d : DDatabase) : Bool := decide ((d.Rows.length : Int) ≤ 64) && !(d.Rows.any rowBad)
def bigB (l : List (List UInt8)) : Prop := l.length ≤ 1099511627776 ∧ ∀ x ∈ l, x.length ≤ 1099511627776
theorem bigB_of {l : List (List UInt8)} (h : szL List.length l ≤ 1099511627776) : bigB l := by
  have h1 := szL_len List.length l
  exact ⟨by omega, fun x hx => by have := szL_mem List.length l hx; omega⟩
theorem c_rowBad (b : List UInt8) : FnAt Tryz.prog 208 [.one (L eU b)] [.one (.s (.bool (rowBad b)))] := by
  refine fn_of Tryz.func208 rfl (by kernel_rfl) rfl ?_
  all_goals repeat' (first
    | (with_reducible rfl)
    | (conv => whnf
       first
         | exact trivial
         | (with_reducible rfl)
         | exact (rfl : (0 : Int) = ((0 : Nat) : Int))
         | exact w64_nat arith
         | refine bcase_T (by first | with_reducible rfl | decide) ?_
         | refine bcase_F (by first | with_reducible rfl | decide) ?_
         | refine bcase_dec (fun _ => ?_) (fun _ => ?_)
         | refine bcase_not ?_
         | refine bcase_intro (fun _ => ?_) (fun _ => ?_)
         | refine ⟨(by with_reducible rfl), ?_⟩
         | refine ⟨congrArg vi ?_, ?_⟩
         | refine ⟨congrArg vb ?_, ?_⟩
         | refine ⟨rfl, ?_⟩
         | refine ⟨(by kernel_rfl : drawOK _ = true), ?_⟩
         | refine Or.inl ?_
         | refine ⟨⟨congrArg (T.int _) ?_, rfl⟩, ?_⟩
         | refine ⟨⟨congrArg T.bool ?_, rfl⟩, ?_⟩
         | refine ⟨⟨rfl, Nat.le_of_ble_eq_true rfl⟩, ?_⟩
         | refine ⟨⟨rfl, rfl⟩, ?_⟩
         | refine ⟨⟨rfl, (by decide)⟩, ?_⟩
         | refine ⟨⟨rfl, ?_⟩, ?_⟩
         | refine ⟨Or.inr rfl, ?_⟩
         | refine ⟨Or.inl rfl, ?_⟩
         | refine ⟨⟨⟨rfl, rfl, rfl⟩, ?_⟩, ?_⟩
         | refine ⟨_, _, rfl, row_get _ _ arith, rfl, ?_⟩
         | refine ⟨Or.inr (by repeat (first | exact trivial | refine ⟨rfl, ?_⟩)), ?_⟩
         | refine ⟨(?_ : _ = ([] : List (List T))), ?_⟩
         | fail))
  all_goals (rw [List.length_map]; rfl)
theorem c_IsValidDatabase (d : DDatabase) (h : d.Rows.length ≤ 1099511627776) : FnAt Tryz.prog 157 [.agg (DDatabase.e d)] [.one (.s (.bool (dbOk d)))] := by
  refine fn_of Tryz.func157 rfl (by kernel_rfl) rfl ?_
  all_goals repeat' (first
    | (with_reducible rfl)
    | (conv => whnf
       first
         | exact trivial
         | (with_reducible rfl)
         | exact (rfl : (0 : Int) = ((0 : Nat) : Int))
         | exact w64_nat arith
         | refine bcase_T (by first | with_reducible rfl | decide) ?_
         | refine bcase_F (by first | with_reducible rfl | decide) ?_
         | refine bcase_dec (fun _ => ?_) (fun _ => ?_)
         | refine bcase_not ?_
         | refine bcase_intro (fun _ => ?_) (fun _ => ?_)
         | refine ⟨(by with_reducible rfl), ?_⟩
         | refine ⟨congrArg vi ?_, ?_⟩
         | refine ⟨congrArg vb ?_, ?_⟩
         | refine ⟨rfl, ?_⟩
         | refine ⟨(by kernel_rfl : drawOK _ = true), ?_⟩
         | refine Or.inl ?_
         | refine ⟨⟨congrArg (T.int _) ?_, rfl⟩, ?_⟩
         | refine ⟨⟨congrArg T.bool ?_, rfl⟩, ?_⟩
         | refine ⟨⟨rfl, Nat.le_of_ble_eq_true rfl⟩, ?_⟩
         | refine ⟨⟨rfl, rfl⟩, ?_⟩
         | refine ⟨⟨rfl, (by decide)⟩, ?_⟩
         | refine ⟨⟨rfl, ?_⟩, ?_⟩
         | refine ⟨Or.inr rfl, ?_⟩
         | refine ⟨Or.inl rfl, ?_⟩
         | refine ⟨⟨⟨rfl, rfl, rfl⟩, ?_⟩, ?_⟩
         | refine ⟨_, _, rfl, row_get _ _ arith, rfl, ?_⟩
         | refine ⟨Or.inr (by repeat (first | exact trivial | refine ⟨rfl, ?_⟩)), ?_⟩
         | refine ⟨(?_ : _ = ([] : List (List T))), ?_⟩
         | refine ⟨_, c_ContainsFuncB d.Rows _ [] rowBad h (fun b _ => c_rowBad b), ?_⟩
         | fail))
  all_goals (simp only [dbOk]; generalize d.Rows.any rowBad = u at *; simp_all <;> (intros; omega))
theorem c_sIsValidDatabase (d : DDatabase) (h : d.Rows.length ≤ 1099511627776) : FnAt Tryz.prog 149 [.agg (DDatabase.e d)] [.one (.s (.bool (dbOk d)))] := by
  refine fn_of Tryz.func149 rfl (by kernel_rfl) rfl ?_
  all_goals repeat' (first
    | (with_reducible rfl)
    | (conv => whnf
       first
         | exact trivial
         | (with_reducible rfl)
         | exact (rfl : (0 : Int) = ((0 : Nat) : Int))
         | exact w64_nat arith
         | refine bcase_T (by first | with_reducible rfl | decide) ?_
         | refine bcase_F (by first | with_reducible rfl | decide) ?_
         | refine bcase_dec (fun _ => ?_) (fun _ => ?_)
         | refine bcase_not ?_
         | refine bcase_intro (fun _ => ?_) (fun _ => ?_)
         | refine ⟨(by with_reducible rfl), ?_⟩
         | refine ⟨congrArg vi ?_, ?_⟩
         | refine ⟨congrArg vb ?_, ?_⟩
         | refine ⟨rfl, ?_⟩
         | refine ⟨(by kernel_rfl : drawOK _ = true), ?_⟩
         | refine Or.inl ?_
         | refine ⟨⟨congrArg (T.int _) ?_, rfl⟩, ?_⟩
         | refine ⟨⟨congrArg T.bool ?_, rfl⟩, ?_⟩
         | refine ⟨⟨rfl, Nat.le_of_ble_eq_true rfl⟩, ?_⟩
         | refine ⟨⟨rfl, rfl⟩, ?_⟩
         | refine ⟨⟨rfl, (by decide)⟩, ?_⟩
         | refine ⟨⟨rfl, ?_⟩, ?_⟩
         | refine ⟨Or.inr rfl, ?_⟩
         | refine ⟨Or.inl rfl, ?_⟩
         | refine ⟨⟨⟨rfl, rfl, rfl⟩, ?_⟩, ?_⟩
         | refine ⟨_, _, rfl, row_get _ _ arith, rfl, ?_⟩
         | refine ⟨Or.inr (by repeat (first | exact trivial | refine ⟨rfl, ?_⟩)), ?_⟩
         | refine ⟨(?_ : _ = ([] : List (List T))), ?_⟩
         | fail))
  conv => whnf
  refine ⟨Nat, fun i => i ≤ d.Rows.length ∧ d.Rows.any rowBad = (d.Rows.drop i).any rowBad, fun i => ⟨[(1, .ptr 0 0), (3, vi i)], [(0, .box [.t (L (eL eU) d.Rows)])], 1⟩, fun i => d.Rows.length - i, 0, ⟨Nat.zero_le _, rfl⟩, sub_at [(0, 1)] rfl rfl rfl ?_ ?_, fun i hi => ?_⟩
  all_goals repeat' (first
    | (with_reducible rfl)
    | (conv => whnf
       first
         | exact trivial
         | (with_reducible rfl)
         | exact (rfl : (0 : Int) = ((0 : Nat) : Int))
         | exact w64_nat arith
         | refine bcase_T (by first | with_reducible rfl | decide) ?_
         | refine bcase_F (by first | with_reducible rfl | decide) ?_
         | refine bcase_dec (fun _ => ?_) (fun _ => ?_)
         | refine bcase_not ?_
         | refine bcase_intro (fun _ => ?_) (fun _ => ?_)
         | refine ⟨(by with_reducible rfl), ?_⟩
         | refine ⟨congrArg vi ?_, ?_⟩
         | refine ⟨congrArg vb ?_, ?_⟩
         | refine ⟨rfl, ?_⟩
         | refine ⟨(by kernel_rfl : drawOK _ = true), ?_⟩
         | refine Or.inl ?_
         | refine ⟨⟨congrArg (T.int _) ?_, rfl⟩, ?_⟩
         | refine ⟨⟨congrArg T.bool ?_, rfl⟩, ?_⟩
         | refine ⟨⟨rfl, Nat.le_of_ble_eq_true rfl⟩, ?_⟩
         | refine ⟨⟨rfl, rfl⟩, ?_⟩
         | refine ⟨⟨rfl, (by decide)⟩, ?_⟩
         | refine ⟨⟨rfl, ?_⟩, ?_⟩
         | refine ⟨Or.inr rfl, ?_⟩
         | refine ⟨Or.inl rfl, ?_⟩
         | refine ⟨⟨⟨rfl, rfl, rfl⟩, ?_⟩, ?_⟩
         | refine ⟨_, _, rfl, row_get _ _ arith, rfl, ?_⟩
         | refine ⟨Or.inr (by repeat (first | exact trivial | refine ⟨rfl, ?_⟩)), ?_⟩
         | refine ⟨(?_ : _ = ([] : List (List T))), ?_⟩
         | refine ⟨i + 1, ⟨⟨arith, ?_⟩, arith⟩, sub_at [(0, 1)] rfl rfl rfl ?_ ?_⟩
         | refine ⟨i, _, rfl, row_get _ _ arith, rfl, ?_⟩
         | fail))
  all_goals first
    | (rw [dbOk, hi.2, any_end (ge_map (by assumption)), List.length_map]; simp; done)
    | (have h0 : i < d.Rows.length := lt_map ‹(i : Int) < ((d.Rows.map (eL eU)).length : Int)›; have h1 : rowBad d.Rows[i] = true := (by unfold rowBad; rw [← List.length_map (f := eU)]; simp_all); rw [dbOk, hi.2, any_T h0 h1]; simp; done)
    | (have h0 : i < d.Rows.length := lt_map ‹(i : Int) < ((d.Rows.map (eL eU)).length : Int)›; have h1 : rowBad d.Rows[i] = false := (by unfold rowBad; rw [← List.length_map (f := eU)]; simp_all); rw [hi.2, any_F h0 h1]; done)
def lastRound (a : DArchive) : Int := if h : 0 < a.Rounds.length then a.Rounds[a.Rounds.length - 1].Round else -1
def roundsSince (l : List DArchivedRound) (f : Int) : List Int := (l.filter fun r => decide (f ≤ r.Round)).map (·.Round)
theorem roundsSince_succ (l : List DArchivedRound) (f : Int) {i : Nat} (h : i < l.length) : roundsSince (l.take (i + 1)) f = roundsSince (l.take i) f ++ if f ≤ l[i].Round then [l[i].Round] else [] := by
  simp only [roundsSince, filter_take_succ _ _ h, List.map_append]
  congr 1
  by_cases h2 : f ≤ l[i].Round <;> simp [h2]
theorem roundsSince_len (l : List DArchivedRound) (f : Int) : (roundsSince l f).length ≤ l.length := by
  simp only [roundsSince, List.length_map]
  exact List.length_filter_le _ _
def roundEq (x y : DArchivedRound) : Bool := decide (x.Round = y.Round) && (x.Database.Rows == y.Database.Rows)
def archEq (a b : DArchive) : Bool := decide (a.Rows = b.Rows) && eqL roundEq a.Rounds b.Rounds
def roundOk (rows : Int) (l : List DArchivedRound) (j : Nat) : Bool := match l[j]? with
  | none => true
  | some r => inR r.Round 0 100000 && (decide (j = 0) || (match l[j - 1]? with | some q => decide (q.Round < r.Round) | none => true)) && dbOk r.Database && decide ((r.Database.Rows.length : Int) = rows)
theorem roundOk_eq (rows : Int) (l : List DArchivedRound) {i : Nat} (h : i < l.length) : roundOk rows l i = (inR l[i].Round 0 100000 && (decide (i = 0) || decide ((l[i - 1]'(by omega)).Round < l[i].Round)) && dbOk l[i].Database && decide ((l[i].Database.Rows.length : Int) = rows)) := by
  have h2 : i - 1 < l.length := by omega
  simp only [roundOk, List.getElem?_eq_getElem h, List.getElem?_eq_getElem h2]
def archOk (a : DArchive) : Bool := allN (roundOk a.Rows a.Rounds) a.Rounds.length 0 && inR a.Rows 1 64 && decide ((a.Rounds.length : Int) ≤ 8)
def bigR (l : List DArchivedRound) : Prop := l.length ≤ 1099511627776 ∧ ∀ r ∈ l, bigB r.Database.Rows
theorem bigR_of {a : DArchive} (h : a.sz ≤ 1099511627776) : bigR a.Rounds := by
  simp only [DArchive.sz] at h
  have h1 := szL_len DArchivedRound.sz a.Rounds
  exact ⟨by omega, fun x hx => by have h2 := szL_mem DArchivedRound.sz a.Rounds hx; simp only [DArchivedRound.sz, DDatabase.sz] at h2; exact bigB_of (by omega)⟩
theorem c_sLastRound (a : DArchive) (h : a.Rounds.length ≤ 1099511627776) : FnAt Tryz.prog 58 [.agg (DArchive.e a)] [.one (.s (I (lastRound a)))] := by
  refine fn_of Tryz.func58 rfl (by kernel_rfl) rfl ?_
  all_goals repeat' (first
    | (with_reducible rfl)
    | (conv => whnf
       first
         | exact trivial
         | (with_reducible rfl)
         | exact (rfl : (0 : Int) = ((0 : Nat) : Int))
         | exact w64_nat arith
         | refine bcase_T (by first | with_reducible rfl | decide) ?_
         | refine bcase_F (by first | with_reducible rfl | decide) ?_
         | refine bcase_dec (fun _ => ?_) (fun _ => ?_)
         | refine bcase_not ?_
         | refine bcase_intro (fun _ => ?_) (fun _ => ?_)
         | refine ⟨(by with_reducible rfl), ?_⟩
         | refine ⟨congrArg vi ?_, ?_⟩
         | refine ⟨congrArg vb ?_, ?_⟩
         | refine ⟨rfl, ?_⟩
         | refine ⟨(by kernel_rfl : drawOK _ = true), ?_⟩
         | refine Or.inl ?_
         | refine ⟨⟨congrArg (T.int _) ?_, rfl⟩, ?_⟩
         | refine ⟨⟨congrArg T.bool ?_, rfl⟩, ?_⟩
         | refine ⟨⟨rfl, Nat.le_of_ble_eq_true rfl⟩, ?_⟩
         | refine ⟨⟨rfl, rfl⟩, ?_⟩
         | refine ⟨⟨rfl, (by decide)⟩, ?_⟩
         | refine ⟨⟨rfl, ?_⟩, ?_⟩
         | refine ⟨Or.inr rfl, ?_⟩
         | refine ⟨Or.inl rfl, ?_⟩
         | refine ⟨⟨⟨rfl, rfl, rfl⟩, ?_⟩, ?_⟩
         | refine ⟨_, _, rfl, row_get _ _ arith, rfl, ?_⟩
         | refine ⟨Or.inr (by repeat (first | exact trivial | refine ⟨rfl, ?_⟩)), ?_⟩
         | refine ⟨(?_ : _ = ([] : List (List T))), ?_⟩
         | refine ⟨a.Rounds.length - 1, _, (by simp only [List.length_map] at *; rw [w64_ok (by omega) (by omega)]; omega), row_get _ _ (by simp only [List.length_map] at *; omega), rfl, ?_⟩
         | fail))
  all_goals (have hl := lenm DArchivedRound.e a.Rounds; unfold lastRound; first | rw [dif_pos (by omega)] | rw [dif_neg (by omega)])
theorem c_LastRound (a : DArchive) (h : a.Rounds.length ≤ 1099511627776) : FnAt Tryz.prog 67 [.agg (DArchive.e a)] [.one (.s (I (lastRound a)))] := by
  refine fn_of Tryz.func67 rfl (by kernel_rfl) rfl ?_
  all_goals repeat' (first
    | (with_reducible rfl)
    | (conv => whnf
       first
         | exact trivial
         | (with_reducible rfl)
         | exact (rfl : (0 : Int) = ((0 : Nat) : Int))
         | exact w64_nat arith
         | refine bcase_T (by first | with_reducible rfl | decide) ?_
         | refine bcase_F (by first | with_reducible rfl | decide) ?_
         | refine bcase_dec (fun _ => ?_) (fun _ => ?_)
         | refine bcase_not ?_
         | refine bcase_intro (fun _ => ?_) (fun _ => ?_)
         | refine ⟨(by with_reducible rfl), ?_⟩
         | refine ⟨congrArg vi ?_, ?_⟩
         | refine ⟨congrArg vb ?_, ?_⟩
         | refine ⟨rfl, ?_⟩
         | refine ⟨(by kernel_rfl : drawOK _ = true), ?_⟩
         | refine Or.inl ?_
         | refine ⟨⟨congrArg (T.int _) ?_, rfl⟩, ?_⟩
         | refine ⟨⟨congrArg T.bool ?_, rfl⟩, ?_⟩
         | refine ⟨⟨rfl, Nat.le_of_ble_eq_true rfl⟩, ?_⟩
         | refine ⟨⟨rfl, rfl⟩, ?_⟩
         | refine ⟨⟨rfl, (by decide)⟩, ?_⟩
         | refine ⟨⟨rfl, ?_⟩, ?_⟩
         | refine ⟨Or.inr rfl, ?_⟩
         | refine ⟨Or.inl rfl, ?_⟩
         | refine ⟨⟨⟨rfl, rfl, rfl⟩, ?_⟩, ?_⟩
         | refine ⟨_, _, rfl, row_get _ _ arith, rfl, ?_⟩
         | refine ⟨Or.inr (by repeat (first | exact trivial | refine ⟨rfl, ?_⟩)), ?_⟩
         | refine ⟨(?_ : _ = ([] : List (List T))), ?_⟩
         | refine ⟨a.Rounds.length - 1, _, (by simp only [List.length_map] at *; rw [w64_ok (by omega) (by omega)]; omega), row_get _ _ (by simp only [List.length_map] at *; omega), rfl, ?_⟩
         | fail))
  all_goals (have hl := lenm DArchivedRound.e a.Rounds; unfold lastRound; first | rw [dif_pos (by omega)] | rw [dif_neg (by omega)])
theorem c_sIsValidArchive (a : DArchive) (h : bigR a.Rounds) : FnAt Tryz.prog 81 [.agg (DArchive.e a)] [.one (.s (.bool (archOk a)))] := by
  have hx := h.1
  have hm := lenm DArchivedRound.e a.Rounds
  refine fn_of Tryz.func81 rfl (by kernel_rfl) rfl ?_
  all_goals repeat' (first
    | (with_reducible rfl)
    | (conv => whnf
       first
         | exact trivial
         | (with_reducible rfl)
         | exact (rfl : (0 : Int) = ((0 : Nat) : Int))
         | exact w64_nat arith
         | refine bcase_T (by first | with_reducible rfl | decide) ?_
         | refine bcase_F (by first | with_reducible rfl | decide) ?_
         | refine bcase_dec (fun _ => ?_) (fun _ => ?_)
         | refine bcase_not ?_
         | refine bcase_intro (fun _ => ?_) (fun _ => ?_)
         | refine ⟨(by with_reducible rfl), ?_⟩
         | refine ⟨congrArg vi ?_, ?_⟩
         | refine ⟨congrArg vb ?_, ?_⟩
         | refine ⟨rfl, ?_⟩
         | refine ⟨(by kernel_rfl : drawOK _ = true), ?_⟩
         | refine Or.inl ?_
         | refine ⟨⟨congrArg (T.int _) ?_, rfl⟩, ?_⟩
         | refine ⟨⟨congrArg T.bool ?_, rfl⟩, ?_⟩
         | refine ⟨⟨rfl, Nat.le_of_ble_eq_true rfl⟩, ?_⟩
         | refine ⟨⟨rfl, rfl⟩, ?_⟩
         | refine ⟨⟨rfl, (by decide)⟩, ?_⟩
         | refine ⟨⟨rfl, ?_⟩, ?_⟩
         | refine ⟨Or.inr rfl, ?_⟩
         | refine ⟨Or.inl rfl, ?_⟩
         | refine ⟨⟨⟨rfl, rfl, rfl⟩, ?_⟩, ?_⟩
         | refine ⟨_, _, rfl, row_get _ _ arith, rfl, ?_⟩
         | refine ⟨Or.inr (by repeat (first | exact trivial | refine ⟨rfl, ?_⟩)), ?_⟩
         | refine ⟨(?_ : _ = ([] : List (List T))), ?_⟩
         | fail))
  conv => whnf
  refine ⟨Nat, fun i => i ≤ a.Rounds.length ∧ allN (roundOk a.Rows a.Rounds) a.Rounds.length 0 = allN (roundOk a.Rows a.Rounds) (a.Rounds.length - i) i, fun i => ⟨[(1, .ptr 0 0), (3, vi i)], [(0, .box [.t (I a.Rows), .t (L DArchivedRound.e a.Rounds)])], 1⟩, fun i => a.Rounds.length - i, 0, ⟨Nat.zero_le _, rfl⟩, sub_at [(0, 1)] rfl rfl rfl ?_ ?_, fun i hi => ?_⟩
  all_goals repeat' (first
    | (with_reducible rfl)
    | (conv => whnf
       first
         | exact trivial
         | (with_reducible rfl)
         | exact (rfl : (0 : Int) = ((0 : Nat) : Int))
         | exact w64_nat arith
         | refine bcase_T (by first | with_reducible rfl | decide) ?_
         | refine bcase_F (by first | with_reducible rfl | decide) ?_
         | refine bcase_dec (fun _ => ?_) (fun _ => ?_)
         | refine bcase_not ?_
         | refine bcase_intro (fun _ => ?_) (fun _ => ?_)
         | refine ⟨(by with_reducible rfl), ?_⟩
         | refine ⟨congrArg vi ?_, ?_⟩
         | refine ⟨congrArg vb ?_, ?_⟩
         | refine ⟨rfl, ?_⟩
         | refine ⟨(by kernel_rfl : drawOK _ = true), ?_⟩
         | refine Or.inl ?_
         | refine ⟨⟨congrArg (T.int _) ?_, rfl⟩, ?_⟩
         | refine ⟨⟨congrArg T.bool ?_, rfl⟩, ?_⟩
         | refine ⟨⟨rfl, Nat.le_of_ble_eq_true rfl⟩, ?_⟩
         | refine ⟨⟨rfl, rfl⟩, ?_⟩
         | refine ⟨⟨rfl, (by decide)⟩, ?_⟩
         | refine ⟨⟨rfl, ?_⟩, ?_⟩
         | refine ⟨Or.inr rfl, ?_⟩
         | refine ⟨Or.inl rfl, ?_⟩
         | refine ⟨⟨⟨rfl, rfl, rfl⟩, ?_⟩, ?_⟩
         | refine ⟨_, _, rfl, row_get _ _ arith, rfl, ?_⟩
         | refine ⟨Or.inr (by repeat (first | exact trivial | refine ⟨rfl, ?_⟩)), ?_⟩
         | refine ⟨(?_ : _ = ([] : List (List T))), ?_⟩
         | refine ⟨_, c_l1In _ _ _, ?_⟩
         | refine ⟨_, c_sIsValidDatabase (a.Rounds[i]'(by omega)).Database (h.2 _ (List.getElem_mem _)).1, ?_⟩
         | refine ⟨i, _, rfl, row_get _ _ (by omega), rfl, ?_⟩
         | refine ⟨i - 1, _, (by rw [w64_ok (by omega) (by omega)]; omega), row_get _ _ (by omega), rfl, ?_⟩
         | refine ⟨i + 1, ⟨⟨arith, ?_⟩, arith⟩, sub_at [(0, 1)] rfl rfl rfl ?_ ?_⟩
         | fail))
  all_goals first
    | (have h0 : i < a.Rounds.length := (by omega); rw [hi.2, allN_T h0 (by rw [roundOk_eq _ _ h0]; simp_all <;> omega)]; done)
    | (have h0 : i < a.Rounds.length := (by omega); unfold archOk; rw [hi.2, allN_F h0 (by rw [roundOk_eq _ _ h0]; simp_all <;> omega)]; rfl)
    | (unfold archOk; rw [hi.2, allN_end (by omega)]; simp_all; done)
    | skip
theorem c_IsValidArchive (a : DArchive) (h : bigR a.Rounds) : FnAt Tryz.prog 91 [.agg (DArchive.e a)] [.one (.s (.bool (archOk a)))] := by
  have hx := h.1
  have hm := lenm DArchivedRound.e a.Rounds
  refine fn_of Tryz.func91 rfl (by kernel_rfl) rfl ?_
  all_goals repeat' (first
    | (with_reducible rfl)
    | (conv => whnf
       first
         | exact trivial
         | (with_reducible rfl)
         | exact (rfl : (0 : Int) = ((0 : Nat) : Int))
         | exact w64_nat arith
         | refine bcase_T (by first | with_reducible rfl | decide) ?_
         | refine bcase_F (by first | with_reducible rfl | decide) ?_
         | refine bcase_dec (fun _ => ?_) (fun _ => ?_)
         | refine bcase_not ?_
         | refine bcase_intro (fun _ => ?_) (fun _ => ?_)
         | refine ⟨(by with_reducible rfl), ?_⟩
         | refine ⟨congrArg vi ?_, ?_⟩
         | refine ⟨congrArg vb ?_, ?_⟩
         | refine ⟨rfl, ?_⟩
         | refine ⟨(by kernel_rfl : drawOK _ = true), ?_⟩
         | refine Or.inl ?_
         | refine ⟨⟨congrArg (T.int _) ?_, rfl⟩, ?_⟩
         | refine ⟨⟨congrArg T.bool ?_, rfl⟩, ?_⟩
         | refine ⟨⟨rfl, Nat.le_of_ble_eq_true rfl⟩, ?_⟩
         | refine ⟨⟨rfl, rfl⟩, ?_⟩
         | refine ⟨⟨rfl, (by decide)⟩, ?_⟩
         | refine ⟨⟨rfl, ?_⟩, ?_⟩
         | refine ⟨Or.inr rfl, ?_⟩
         | refine ⟨Or.inl rfl, ?_⟩
         | refine ⟨⟨⟨rfl, rfl, rfl⟩, ?_⟩, ?_⟩
         | refine ⟨_, _, rfl, row_get _ _ arith, rfl, ?_⟩
         | refine ⟨Or.inr (by repeat (first | exact trivial | refine ⟨rfl, ?_⟩)), ?_⟩
         | refine ⟨(?_ : _ = ([] : List (List T))), ?_⟩
         | fail))
  conv => whnf
  refine ⟨Nat, fun i => i ≤ a.Rounds.length ∧ allN (roundOk a.Rows a.Rounds) a.Rounds.length 0 = allN (roundOk a.Rows a.Rounds) (a.Rounds.length - i) i, fun i => ⟨[(1, .ptr 0 0), (6, vl (a.Rounds.map DArchivedRound.e)), (7, vi a.Rounds.length), (8, vi i)], [(0, .box [.t (I a.Rows), .t (L DArchivedRound.e a.Rounds)])], 1⟩, fun i => a.Rounds.length - i, 0, ⟨Nat.zero_le _, rfl⟩, sub_at [(0, 1)] rfl rfl rfl ?_ ?_, fun i hi => ?_⟩
  all_goals repeat' (first
    | (with_reducible rfl)
    | (conv => whnf
       first
         | exact trivial
         | (with_reducible rfl)
         | exact (rfl : (0 : Int) = ((0 : Nat) : Int))
         | exact w64_nat arith
         | refine bcase_T (by first | with_reducible rfl | decide) ?_
         | refine bcase_F (by first | with_reducible rfl | decide) ?_
         | refine bcase_dec (fun _ => ?_) (fun _ => ?_)
         | refine bcase_not ?_
         | refine bcase_intro (fun _ => ?_) (fun _ => ?_)
         | refine ⟨(by with_reducible rfl), ?_⟩
         | refine ⟨congrArg vi ?_, ?_⟩
         | refine ⟨congrArg vb ?_, ?_⟩
         | refine ⟨rfl, ?_⟩
         | refine ⟨(by kernel_rfl : drawOK _ = true), ?_⟩
         | refine Or.inl ?_
         | refine ⟨⟨congrArg (T.int _) ?_, rfl⟩, ?_⟩
         | refine ⟨⟨congrArg T.bool ?_, rfl⟩, ?_⟩
         | refine ⟨⟨rfl, Nat.le_of_ble_eq_true rfl⟩, ?_⟩
         | refine ⟨⟨rfl, rfl⟩, ?_⟩
         | refine ⟨⟨rfl, (by decide)⟩, ?_⟩
         | refine ⟨⟨rfl, ?_⟩, ?_⟩
         | refine ⟨Or.inr rfl, ?_⟩
         | refine ⟨Or.inl rfl, ?_⟩
         | refine ⟨⟨⟨rfl, rfl, rfl⟩, ?_⟩, ?_⟩
         | refine ⟨_, _, rfl, row_get _ _ arith, rfl, ?_⟩
         | refine ⟨Or.inr (by repeat (first | exact trivial | refine ⟨rfl, ?_⟩)), ?_⟩
         | refine ⟨(?_ : _ = ([] : List (List T))), ?_⟩
         | refine ⟨_, c_InRange _ _ _, ?_⟩
         | refine ⟨_, c_IsValidDatabase (a.Rounds[i]'(by omega)).Database (h.2 _ (List.getElem_mem _)).1, ?_⟩
         | refine ⟨i, _, rfl, row_get _ _ (by omega), rfl, ?_⟩
         | refine ⟨i - 1, _, (by rw [w64_ok (by omega) (by omega)]; omega), row_get _ _ (by omega), rfl, ?_⟩
         | refine ⟨i + 1, ⟨⟨arith, ?_⟩, arith⟩, sub_at [(0, 1)] rfl rfl rfl ?_ ?_⟩
         | fail))
  all_goals first
    | (rw [List.length_map]; done)
    | (have h0 : i < a.Rounds.length := (by omega); rw [hi.2, allN_T h0 (by rw [roundOk_eq _ _ h0]; simp_all <;> omega)]; done)
    | (have h0 : i < a.Rounds.length := (by omega); unfold archOk; rw [hi.2, allN_F h0 (by rw [roundOk_eq _ _ h0]; simp_all <;> omega)]; rfl)
    | (unfold archOk; rw [hi.2, allN_end (by omega)]; simp_all; done)
    | skip
end Go.Proofs.YtdbgmncapignoaaGreat
