/-
  Contracts: archives that are copied, searched, added to.
  Conditions: none.
-/
import Derived.Test.YteecgbgdmfjogaaGreatFnD
import Derived.Test.YteecgbgdmfjogaaGreatVmAc
namespace Go.Proofs.YteecgbgdmfjogaaGreat
set_option maxHeartbeats 4000000
set_option maxRecDepth 20000
open Go.Vm Go.RowKit
attribute [local irreducible] FnAt MutAt InAt JAt CurAt FnE CurE RegAt

theorem c_copyDatabase (d : DDatabase) (h : bigB d.Rows) : FnAt Tryz.prog 110 [.agg (DDatabase.e d)] [.agg (DDatabase.r d)] := by
  refine fn_of Tryz.func110 rfl (by kernel_rfl) rfl ?_
  all_goals repeat' (first | (with_reducible rfl) | ((conv => whnf); first | exact trivial | (with_reducible rfl) | exact (rfl : (0 : Int) = ((0 : Nat) : Int)) | exact w64_nat arith | refine bcase_T (by first | with_reducible rfl | decide) ?_ | refine bcase_F (by first | with_reducible rfl | decide) ?_ | refine bcase_dec (fun _ => ?_) (fun _ => ?_) | refine bcase_not ?_ | refine bcase_intro (fun _ => ?_) (fun _ => ?_) | refine ⟨(by with_reducible rfl), ?_⟩ | refine ⟨congrArg vi ?_, ?_⟩ | refine ⟨congrArg vb ?_, ?_⟩ | refine ⟨rfl, ?_⟩ | refine ⟨(by kernel_rfl : drawOK _ = true), ?_⟩ | refine Or.inl ?_ | refine ⟨⟨congrArg (T.int _) ?_, rfl⟩, ?_⟩ | refine ⟨⟨congrArg T.bool ?_, rfl⟩, ?_⟩ | refine ⟨⟨rfl, Nat.le_of_ble_eq_true rfl⟩, ?_⟩ | refine ⟨⟨rfl, rfl⟩, ?_⟩ | refine ⟨⟨rfl, (by decide)⟩, ?_⟩ | refine ⟨⟨rfl, ?_⟩, ?_⟩ | refine ⟨Or.inr rfl, ?_⟩ | refine ⟨Or.inl rfl, ?_⟩ | refine ⟨⟨⟨rfl, rfl, rfl⟩, ?_⟩, ?_⟩ | refine ⟨_, _, rfl, row_get _ _ arith, rfl, ?_⟩ | refine ⟨Or.inr (by repeat (first | exact trivial | refine ⟨rfl, ?_⟩)), ?_⟩ | refine ⟨(?_ : _ = ([] : List (List T))), ?_⟩ | refine ⟨_, c_copyLists _ h.1 h.2, ?_⟩ | fail))
  all_goals rfl
theorem c_l8Copy (d : DDatabase) (h : bigB d.Rows) : FnAt Tryz.prog 112 [.agg (DDatabase.e d)] [.agg (DDatabase.r d)] := by
  refine fn_of Tryz.func112 rfl (by kernel_rfl) rfl ?_
  all_goals repeat' (first | (with_reducible rfl) | ((conv => whnf); first | exact trivial | (with_reducible rfl) | exact (rfl : (0 : Int) = ((0 : Nat) : Int)) | exact w64_nat arith | refine bcase_T (by first | with_reducible rfl | decide) ?_ | refine bcase_F (by first | with_reducible rfl | decide) ?_ | refine bcase_dec (fun _ => ?_) (fun _ => ?_) | refine bcase_not ?_ | refine bcase_intro (fun _ => ?_) (fun _ => ?_) | refine ⟨(by with_reducible rfl), ?_⟩ | refine ⟨congrArg vi ?_, ?_⟩ | refine ⟨congrArg vb ?_, ?_⟩ | refine ⟨rfl, ?_⟩ | refine ⟨(by kernel_rfl : drawOK _ = true), ?_⟩ | refine Or.inl ?_ | refine ⟨⟨congrArg (T.int _) ?_, rfl⟩, ?_⟩ | refine ⟨⟨congrArg T.bool ?_, rfl⟩, ?_⟩ | refine ⟨⟨rfl, Nat.le_of_ble_eq_true rfl⟩, ?_⟩ | refine ⟨⟨rfl, rfl⟩, ?_⟩ | refine ⟨⟨rfl, (by decide)⟩, ?_⟩ | refine ⟨⟨rfl, ?_⟩, ?_⟩ | refine ⟨Or.inr rfl, ?_⟩ | refine ⟨Or.inl rfl, ?_⟩ | refine ⟨⟨⟨rfl, rfl, rfl⟩, ?_⟩, ?_⟩ | refine ⟨_, _, rfl, row_get _ _ arith, rfl, ?_⟩ | refine ⟨Or.inr (by repeat (first | exact trivial | refine ⟨rfl, ?_⟩)), ?_⟩ | refine ⟨(?_ : _ = ([] : List (List T))), ?_⟩ | refine ⟨_, c_l4Copy _ h.1 h.2, ?_⟩ | fail))
  all_goals rfl
def archFind (l : List DArchivedRound) (k : Int) : Option DArchivedRound := firstP (fun r => decide (r.Round = k)) l
def archDb (a : DArchive) (k : Int) : DDatabase := match archFind a.Rounds k with | some r => r.Database | none => ⟨[]⟩
def archHas (a : DArchive) (k : Int) : Bool := (archFind a.Rounds k).isSome
def addOk (a : DArchive) (r : Int) (d : DDatabase) : Bool := archOk a && inR r 0 100000 && decide (lastRound a < r) && dbOk d && decide ((d.Rows.length : Int) = a.Rows)
def withRound (a : DArchive) (r : Int) (d : DDatabase) : List DArchivedRound := a.Rounds ++ [⟨r, d⟩]
def addRounds (a : DArchive) (r : Int) (d : DDatabase) : List DArchivedRound := if 8 < (withRound a r d).length then (withRound a r d).drop 1 else withRound a r d
def addRound (a : DArchive) (r : Int) (d : DDatabase) : DArchive := if addOk a r d then ⟨a.Rows, addRounds a r d⟩ else a
theorem c_l28Copy (a : DArchive) (h : bigR a.Rounds) : FnAt Tryz.prog 86 [.agg (DArchive.e a)] [.agg (DArchive.r a)] := by
  have hx := h.1
  have hm := lenm DArchivedRound.e a.Rounds
  refine fn_of Tryz.func86 rfl (by kernel_rfl) rfl ?_
  all_goals repeat' (first | (with_reducible rfl) | ((conv => whnf); first | exact trivial | (with_reducible rfl) | exact (rfl : (0 : Int) = ((0 : Nat) : Int)) | exact w64_nat arith | refine bcase_T (by first | with_reducible rfl | decide) ?_ | refine bcase_F (by first | with_reducible rfl | decide) ?_ | refine bcase_dec (fun _ => ?_) (fun _ => ?_) | refine bcase_not ?_ | refine bcase_intro (fun _ => ?_) (fun _ => ?_) | refine ⟨(by with_reducible rfl), ?_⟩ | refine ⟨congrArg vi ?_, ?_⟩ | refine ⟨congrArg vb ?_, ?_⟩ | refine ⟨rfl, ?_⟩ | refine ⟨(by kernel_rfl : drawOK _ = true), ?_⟩ | refine Or.inl ?_ | refine ⟨⟨congrArg (T.int _) ?_, rfl⟩, ?_⟩ | refine ⟨⟨congrArg T.bool ?_, rfl⟩, ?_⟩ | refine ⟨⟨rfl, Nat.le_of_ble_eq_true rfl⟩, ?_⟩ | refine ⟨⟨rfl, rfl⟩, ?_⟩ | refine ⟨⟨rfl, (by decide)⟩, ?_⟩ | refine ⟨⟨rfl, ?_⟩, ?_⟩ | refine ⟨Or.inr rfl, ?_⟩ | refine ⟨Or.inl rfl, ?_⟩ | refine ⟨⟨⟨rfl, rfl, rfl⟩, ?_⟩, ?_⟩ | refine ⟨_, _, rfl, row_get _ _ arith, rfl, ?_⟩ | refine ⟨Or.inr (by repeat (first | exact trivial | refine ⟨rfl, ?_⟩)), ?_⟩ | refine ⟨(?_ : _ = ([] : List (List T))), ?_⟩ | fail))
  conv => whnf
  refine ⟨Nat, fun i => i ≤ a.Rounds.length, fun i => ⟨[(1, .ptr 0 0), (2, .ptr 1 0), (3, .ptr 2 0), (4, vi i)], [(0, .box [.t (I a.Rows), .t (L DArchivedRound.e a.Rounds)]), (1, .box [.t (I 0), .nil]), (2, .box [.t (I a.Rows), .ref 3]), (3, .row true true 2 ((a.Rounds.take i).map DArchivedRound.e))], 4⟩, fun i => a.Rounds.length - i, 0, Nat.zero_le _, sub_at2 [(0, 1, 0), (1, 2, 0), (2, 3, 0), (3, 3, 2)] rfl rfl rfl ?_ ?_, fun i (hi : i ≤ a.Rounds.length) => ?_⟩
  all_goals repeat' (first | (with_reducible rfl) | ((conv => whnf); first | exact trivial | (with_reducible rfl) | exact (rfl : (0 : Int) = ((0 : Nat) : Int)) | exact w64_nat arith | refine bcase_T (by first | with_reducible rfl | decide) ?_ | refine bcase_F (by first | with_reducible rfl | decide) ?_ | refine bcase_dec (fun _ => ?_) (fun _ => ?_) | refine bcase_not ?_ | refine bcase_intro (fun _ => ?_) (fun _ => ?_) | refine ⟨(by with_reducible rfl), ?_⟩ | refine ⟨congrArg vi ?_, ?_⟩ | refine ⟨congrArg vb ?_, ?_⟩ | refine ⟨rfl, ?_⟩ | refine ⟨(by kernel_rfl : drawOK _ = true), ?_⟩ | refine Or.inl ?_ | refine ⟨⟨congrArg (T.int _) ?_, rfl⟩, ?_⟩ | refine ⟨⟨congrArg T.bool ?_, rfl⟩, ?_⟩ | refine ⟨⟨rfl, Nat.le_of_ble_eq_true rfl⟩, ?_⟩ | refine ⟨⟨rfl, rfl⟩, ?_⟩ | refine ⟨⟨rfl, (by decide)⟩, ?_⟩ | refine ⟨⟨rfl, ?_⟩, ?_⟩ | refine ⟨Or.inr rfl, ?_⟩ | refine ⟨Or.inl rfl, ?_⟩ | refine ⟨⟨⟨rfl, rfl, rfl⟩, ?_⟩, ?_⟩ | refine ⟨_, _, rfl, row_get _ _ arith, rfl, ?_⟩ | refine ⟨Or.inr (by repeat (first | exact trivial | refine ⟨rfl, ?_⟩)), ?_⟩ | refine ⟨(?_ : _ = ([] : List (List T))), ?_⟩ | refine ⟨_, c_l8Copy (a.Rounds[i]'(by omega)).Database (h.2 _ (List.getElem_mem _)), ?_⟩ | refine ⟨i, _, rfl, row_get _ _ (by omega), rfl, ?_⟩ | refine ⟨⟨bnd, bnd⟩, ?_⟩ | refine ⟨i + 1, ⟨arith, arith⟩, sub_at2 [(0, 1, 0), (1, 2, 0), (2, 3, 0), (3, 3, 2)] rfl rfl rfl ?_ ?_⟩ | fail))
  all_goals first
    | (rw [map_take_succ _ _ (by omega)]; rfl)
    | (rw [take_all _ (by omega)])
    | (simp; done)
    | skip
theorem c_copyArchive (a : DArchive) (h : bigR a.Rounds) : FnAt Tryz.prog 81 [.agg (DArchive.e a)] [.agg (DArchive.r a)] := by
  have hx := h.1
  have hm := lenm DArchivedRound.e a.Rounds
  refine fn_of Tryz.func81 rfl (by kernel_rfl) rfl ?_
  all_goals repeat' (first | (with_reducible rfl) | ((conv => whnf); first | exact trivial | (with_reducible rfl) | exact (rfl : (0 : Int) = ((0 : Nat) : Int)) | exact w64_nat arith | refine bcase_T (by first | with_reducible rfl | decide) ?_ | refine bcase_F (by first | with_reducible rfl | decide) ?_ | refine bcase_dec (fun _ => ?_) (fun _ => ?_) | refine bcase_not ?_ | refine bcase_intro (fun _ => ?_) (fun _ => ?_) | refine ⟨(by with_reducible rfl), ?_⟩ | refine ⟨congrArg vi ?_, ?_⟩ | refine ⟨congrArg vb ?_, ?_⟩ | refine ⟨rfl, ?_⟩ | refine ⟨(by kernel_rfl : drawOK _ = true), ?_⟩ | refine Or.inl ?_ | refine ⟨⟨congrArg (T.int _) ?_, rfl⟩, ?_⟩ | refine ⟨⟨congrArg T.bool ?_, rfl⟩, ?_⟩ | refine ⟨⟨rfl, Nat.le_of_ble_eq_true rfl⟩, ?_⟩ | refine ⟨⟨rfl, rfl⟩, ?_⟩ | refine ⟨⟨rfl, (by decide)⟩, ?_⟩ | refine ⟨⟨rfl, ?_⟩, ?_⟩ | refine ⟨Or.inr rfl, ?_⟩ | refine ⟨Or.inl rfl, ?_⟩ | refine ⟨⟨⟨rfl, rfl, rfl⟩, ?_⟩, ?_⟩ | refine ⟨_, _, rfl, row_get _ _ arith, rfl, ?_⟩ | refine ⟨Or.inr (by repeat (first | exact trivial | refine ⟨rfl, ?_⟩)), ?_⟩ | refine ⟨(?_ : _ = ([] : List (List T))), ?_⟩ | fail))
  conv => whnf
  refine ⟨Nat, fun i => i ≤ a.Rounds.length, fun i => ⟨[(2, .ptr 0 0), (3, .ptr 1 0), (10, vl (a.Rounds.map DArchivedRound.e)), (11, vi a.Rounds.length), (12, vi i)], [(0, .box [.t (I 0), .nil]), (1, .box [.t (I a.Rows), .ref 2]), (2, .row true true 2 ((a.Rounds.take i).map DArchivedRound.e))], 3⟩, fun i => a.Rounds.length - i, 0, Nat.zero_le _, sub_at2 [(0, 2, 0), (1, 3, 0), (2, 3, 2)] rfl rfl rfl ?_ ?_, fun i (hi : i ≤ a.Rounds.length) => ?_⟩
  all_goals repeat' (first | (with_reducible rfl) | ((conv => whnf); first | exact trivial | (with_reducible rfl) | exact (rfl : (0 : Int) = ((0 : Nat) : Int)) | exact w64_nat arith | refine bcase_T (by first | with_reducible rfl | decide) ?_ | refine bcase_F (by first | with_reducible rfl | decide) ?_ | refine bcase_dec (fun _ => ?_) (fun _ => ?_) | refine bcase_not ?_ | refine bcase_intro (fun _ => ?_) (fun _ => ?_) | refine ⟨(by with_reducible rfl), ?_⟩ | refine ⟨congrArg vi ?_, ?_⟩ | refine ⟨congrArg vb ?_, ?_⟩ | refine ⟨rfl, ?_⟩ | refine ⟨(by kernel_rfl : drawOK _ = true), ?_⟩ | refine Or.inl ?_ | refine ⟨⟨congrArg (T.int _) ?_, rfl⟩, ?_⟩ | refine ⟨⟨congrArg T.bool ?_, rfl⟩, ?_⟩ | refine ⟨⟨rfl, Nat.le_of_ble_eq_true rfl⟩, ?_⟩ | refine ⟨⟨rfl, rfl⟩, ?_⟩ | refine ⟨⟨rfl, (by decide)⟩, ?_⟩ | refine ⟨⟨rfl, ?_⟩, ?_⟩ | refine ⟨Or.inr rfl, ?_⟩ | refine ⟨Or.inl rfl, ?_⟩ | refine ⟨⟨⟨rfl, rfl, rfl⟩, ?_⟩, ?_⟩ | refine ⟨_, _, rfl, row_get _ _ arith, rfl, ?_⟩ | refine ⟨Or.inr (by repeat (first | exact trivial | refine ⟨rfl, ?_⟩)), ?_⟩ | refine ⟨(?_ : _ = ([] : List (List T))), ?_⟩ | refine ⟨_, c_copyDatabase (a.Rounds[i]'(by omega)).Database (h.2 _ (List.getElem_mem _)), ?_⟩ | refine ⟨⟨bnd, bnd⟩, ?_⟩ | refine ⟨i + 1, ⟨arith, arith⟩, sub_at2 [(0, 2, 0), (1, 3, 0), (2, 3, 2)] rfl rfl rfl ?_ ?_⟩ | fail))
  all_goals first
    | (rw [List.length_map]; done)
    | (rw [map_take_succ _ _ (by omega)]; rfl)
    | (rw [take_all _ (by omega)])
    | (simp; done)
    | skip
theorem c_sAddRound (a : DArchive) (r : Int) (d : DDatabase) (h : bigR a.Rounds) (h2 : a.Rounds.length ≤ 1048576) (hd : bigB d.Rows) : FnAt Tryz.prog 120 [.agg (DArchive.e a), .one (I r), .agg (DDatabase.e d)] [.agg [.s (I (addRound a r d).Rows), .w 2 ((addRound a r d).Rounds.map DArchivedRound.e)], .one (.s (.bool (addOk a r d)))] := by
  have hm : (withRound a r d).map DArchivedRound.e = a.Rounds.map DArchivedRound.e ++ [DArchivedRound.e ⟨r, d⟩] := by simp [withRound]
  have hl : (withRound a r d).length = a.Rounds.length + 1 := by simp [withRound]
  have hm2 := lenm DArchivedRound.e a.Rounds
  have hm3 := lenm (eL eU) d.Rows
  refine fn_of Tryz.func120 rfl (by kernel_rfl) rfl ?_
  all_goals repeat' (first | (with_reducible rfl) | ((conv => whnf); first | exact trivial | (with_reducible rfl) | exact (rfl : (0 : Int) = ((0 : Nat) : Int)) | exact w64_nat arith | refine bcase_T (by first | with_reducible rfl | decide) ?_ | refine bcase_F (by first | with_reducible rfl | decide) ?_ | refine bcase_dec (fun _ => ?_) (fun _ => ?_) | refine bcase_not ?_ | refine bcase_intro (fun _ => ?_) (fun _ => ?_) | refine ⟨(by with_reducible rfl), ?_⟩ | refine ⟨congrArg vi ?_, ?_⟩ | refine ⟨congrArg vb ?_, ?_⟩ | refine ⟨rfl, ?_⟩ | refine ⟨(by kernel_rfl : drawOK _ = true), ?_⟩ | refine Or.inl ?_ | refine ⟨⟨congrArg (T.int _) ?_, rfl⟩, ?_⟩ | refine ⟨⟨congrArg T.bool ?_, rfl⟩, ?_⟩ | refine ⟨⟨rfl, Nat.le_of_ble_eq_true rfl⟩, ?_⟩ | refine ⟨⟨rfl, rfl⟩, ?_⟩ | refine ⟨⟨rfl, (by decide)⟩, ?_⟩ | refine ⟨⟨rfl, ?_⟩, ?_⟩ | refine ⟨Or.inr rfl, ?_⟩ | refine ⟨Or.inl rfl, ?_⟩ | refine ⟨⟨⟨rfl, rfl, rfl⟩, ?_⟩, ?_⟩ | refine ⟨_, _, rfl, row_get _ _ arith, rfl, ?_⟩ | refine ⟨Or.inr (by repeat (first | exact trivial | refine ⟨rfl, ?_⟩)), ?_⟩ | refine ⟨(?_ : _ = ([] : List (List T))), ?_⟩ | refine ⟨_, c_l28Copy a h, ?_⟩ | refine ⟨_, c_sIsValidArchive a h, ?_⟩ | refine ⟨_, c_l1In _ _ _, ?_⟩ | refine ⟨_, c_sLastRound a h.1, ?_⟩ | refine ⟨_, c_sIsValidDatabase d hd.1, ?_⟩ | refine ⟨_, c_l8Copy d hd, ?_⟩ | refine ⟨⟨bnd, bnd⟩, ?_⟩ | refine ⟨1, _, rfl, rfl, ⟨bnd, Nat.le_refl _⟩, ?_⟩ | fail))
  all_goals (try refine ⟨(by simp only [List.length_append, List.length_map, List.length_cons, List.length_nil] at *; omega), Nat.le_refl _, ?_⟩)
  all_goals (try rw [List.take_length])
  all_goals first
    | (have e : addOk a r d = false := (by unfold addOk; grind); first | exact e.symm | (simp only [addRound, e]; rfl))
    | (have e : addOk a r d = true := (by unfold addOk; grind); first | exact e.symm | (simp only [addRound, e, if_true]; done) | (simp only [addRound, e, if_true, addRounds]; rw [if_pos (by simp only [List.length_append, List.length_map, List.length_cons, List.length_nil] at *; omega), List.map_drop, hm]; rfl) | (simp only [addRound, e, if_true, addRounds]; rw [if_neg (by simp only [List.length_append, List.length_map, List.length_cons, List.length_nil] at *; omega), hm]; rfl))
    | skip
theorem firstP_mem {α : Type} {p : α → Bool} : ∀ {l : List α} {x : α}, firstP p l = some x → x ∈ l
  | [], _, h => by cases h
  | y :: l, x, h => by
    simp only [firstP] at h
    split at h
    · injection h with h; simp [h]
    · exact List.mem_cons_of_mem _ (firstP_mem h)
theorem szL_append {α : Type} (f : α → Nat) (xs ys : List α) : szL f (xs ++ ys) = szL f xs + szL f ys := by
  simp only [szL, List.length_append, List.map_append, List.sum_append]; omega
theorem szL_drop {α : Type} (f : α → Nat) (n : Nat) (xs : List α) : szL f (xs.drop n) ≤ szL f xs := by
  conv => rhs; rw [← List.take_append_drop n xs, szL_append]
  exact Nat.le_add_left _ _
end Go.Proofs.YteecgbgdmfjogaaGreat
