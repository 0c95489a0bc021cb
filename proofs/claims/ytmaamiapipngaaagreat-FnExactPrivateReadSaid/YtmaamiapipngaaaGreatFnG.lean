/-
  Contracts: archives that are copied, searched, added to.
  Conditions: none.
-/
import Derived.Test.YtmaamiapipngaaaGreatFnD
import Derived.Test.YtmaamiapipngaaaGreatVmAc
namespace Go.Proofs.YtmaamiapipngaaaGreat
set_option maxHeartbeats 4000000
set_option maxRecDepth 20000
open Go.Vm Go.RowKit
attribute [local irreducible] FnAt MutAt InAt JAt CurAt FnE CurE RegAt

theorem c_copyDatabase (d : DDatabase) (h : bigB d.Rows) : FnAt Tryz.prog 56 [.agg (DDatabase.e d)] [.agg (DDatabase.r d)] := by
  refine fn_of Tryz.func56 rfl (by kernel_rfl) rfl ?_
  all_goals repeat' (first | (with_reducible rfl) | ((conv => whnf); first | exact trivial | (with_reducible rfl) | exact (rfl : (0 : Int) = ((0 : Nat) : Int)) | exact w64_nat arith | refine bcase_T (by first | with_reducible rfl | decide) ?_ | refine bcase_F (by first | with_reducible rfl | decide) ?_ | refine bcase_dec (fun _ => ?_) (fun _ => ?_) | refine bcase_not ?_ | refine bcase_intro (fun _ => ?_) (fun _ => ?_) | refine ⟨(by with_reducible rfl), ?_⟩ | refine ⟨congrArg vi ?_, ?_⟩ | refine ⟨congrArg vb ?_, ?_⟩ | refine ⟨rfl, ?_⟩ | refine ⟨(by kernel_rfl : drawOK _ = true), ?_⟩ | refine Or.inl ?_ | refine ⟨⟨congrArg (T.int _) ?_, rfl⟩, ?_⟩ | refine ⟨⟨congrArg T.bool ?_, rfl⟩, ?_⟩ | refine ⟨⟨rfl, Nat.le_of_ble_eq_true rfl⟩, ?_⟩ | refine ⟨⟨rfl, rfl⟩, ?_⟩ | refine ⟨⟨rfl, (by decide)⟩, ?_⟩ | refine ⟨⟨rfl, ?_⟩, ?_⟩ | refine ⟨Or.inr rfl, ?_⟩ | refine ⟨Or.inl rfl, ?_⟩ | refine ⟨⟨⟨rfl, rfl, rfl⟩, ?_⟩, ?_⟩ | refine ⟨_, _, rfl, row_get _ _ arith, rfl, ?_⟩ | refine ⟨Or.inr (by repeat (first | exact trivial | refine ⟨rfl, ?_⟩)), ?_⟩ | refine ⟨(?_ : _ = ([] : List (List T))), ?_⟩ | refine ⟨_, c_copyLists _ h.1 h.2, ?_⟩ | fail))
  all_goals rfl
theorem c_l8Copy (d : DDatabase) (h : bigB d.Rows) : FnAt Tryz.prog 85 [.agg (DDatabase.e d)] [.agg (DDatabase.r d)] := by
  refine fn_of Tryz.func85 rfl (by kernel_rfl) rfl ?_
  all_goals repeat' (first | (with_reducible rfl) | ((conv => whnf); first | exact trivial | (with_reducible rfl) | exact (rfl : (0 : Int) = ((0 : Nat) : Int)) | exact w64_nat arith | refine bcase_T (by first | with_reducible rfl | decide) ?_ | refine bcase_F (by first | with_reducible rfl | decide) ?_ | refine bcase_dec (fun _ => ?_) (fun _ => ?_) | refine bcase_not ?_ | refine bcase_intro (fun _ => ?_) (fun _ => ?_) | refine ⟨(by with_reducible rfl), ?_⟩ | refine ⟨congrArg vi ?_, ?_⟩ | refine ⟨congrArg vb ?_, ?_⟩ | refine ⟨rfl, ?_⟩ | refine ⟨(by kernel_rfl : drawOK _ = true), ?_⟩ | refine Or.inl ?_ | refine ⟨⟨congrArg (T.int _) ?_, rfl⟩, ?_⟩ | refine ⟨⟨congrArg T.bool ?_, rfl⟩, ?_⟩ | refine ⟨⟨rfl, Nat.le_of_ble_eq_true rfl⟩, ?_⟩ | refine ⟨⟨rfl, rfl⟩, ?_⟩ | refine ⟨⟨rfl, (by decide)⟩, ?_⟩ | refine ⟨⟨rfl, ?_⟩, ?_⟩ | refine ⟨Or.inr rfl, ?_⟩ | refine ⟨Or.inl rfl, ?_⟩ | refine ⟨⟨⟨rfl, rfl, rfl⟩, ?_⟩, ?_⟩ | refine ⟨_, _, rfl, row_get _ _ arith, rfl, ?_⟩ | refine ⟨Or.inr (by repeat (first | exact trivial | refine ⟨rfl, ?_⟩)), ?_⟩ | refine ⟨(?_ : _ = ([] : List (List T))), ?_⟩ | refine ⟨_, c_l4Copy _ h.1 h.2, ?_⟩ | fail))
  all_goals rfl
def archFind (l : List DArchivedRound) (k : Int) : Option DArchivedRound := firstP (fun r => decide (r.Round = k)) l
def archDb (a : DArchive) (k : Int) : DDatabase := match archFind a.Rounds k with | some r => r.Database | none => ⟨[]⟩
def archHas (a : DArchive) (k : Int) : Bool := (archFind a.Rounds k).isSome
def addOk (a : DArchive) (r : Int) (d : DDatabase) : Bool := archOk a && inR r 0 100000 && decide (lastRound a < r) && dbOk d && decide ((d.Rows.length : Int) = a.Rows)
def withRound (a : DArchive) (r : Int) (d : DDatabase) : List DArchivedRound := a.Rounds ++ [⟨r, d⟩]
def addRounds (a : DArchive) (r : Int) (d : DDatabase) : List DArchivedRound := if 8 < (withRound a r d).length then (withRound a r d).drop 1 else withRound a r d
def addRound (a : DArchive) (r : Int) (d : DDatabase) : DArchive := if addOk a r d then ⟨a.Rows, addRounds a r d⟩ else a
theorem c_sArchivedDatabase (a : DArchive) (k : Int) (h : bigR a.Rounds) : FnAt Tryz.prog 47 [.agg (DArchive.e a), .one (I k)] [.agg (DDatabase.r (archDb a k)), .one (.s (.bool (archHas a k)))] := by
  have hx := h.1
  have hm := lenm DArchivedRound.e a.Rounds
  refine fn_of Tryz.func47 rfl (by kernel_rfl) rfl ?_
  all_goals repeat' (first | (with_reducible rfl) | ((conv => whnf); first | exact trivial | (with_reducible rfl) | exact (rfl : (0 : Int) = ((0 : Nat) : Int)) | exact w64_nat arith | refine bcase_T (by first | with_reducible rfl | decide) ?_ | refine bcase_F (by first | with_reducible rfl | decide) ?_ | refine bcase_dec (fun _ => ?_) (fun _ => ?_) | refine bcase_not ?_ | refine bcase_intro (fun _ => ?_) (fun _ => ?_) | refine ⟨(by with_reducible rfl), ?_⟩ | refine ⟨congrArg vi ?_, ?_⟩ | refine ⟨congrArg vb ?_, ?_⟩ | refine ⟨rfl, ?_⟩ | refine ⟨(by kernel_rfl : drawOK _ = true), ?_⟩ | refine Or.inl ?_ | refine ⟨⟨congrArg (T.int _) ?_, rfl⟩, ?_⟩ | refine ⟨⟨congrArg T.bool ?_, rfl⟩, ?_⟩ | refine ⟨⟨rfl, Nat.le_of_ble_eq_true rfl⟩, ?_⟩ | refine ⟨⟨rfl, rfl⟩, ?_⟩ | refine ⟨⟨rfl, (by decide)⟩, ?_⟩ | refine ⟨⟨rfl, ?_⟩, ?_⟩ | refine ⟨Or.inr rfl, ?_⟩ | refine ⟨Or.inl rfl, ?_⟩ | refine ⟨⟨⟨rfl, rfl, rfl⟩, ?_⟩, ?_⟩ | refine ⟨_, _, rfl, row_get _ _ arith, rfl, ?_⟩ | refine ⟨Or.inr (by repeat (first | exact trivial | refine ⟨rfl, ?_⟩)), ?_⟩ | refine ⟨(?_ : _ = ([] : List (List T))), ?_⟩ | fail))
  conv => whnf
  refine ⟨Nat, fun i => i ≤ a.Rounds.length ∧ archFind a.Rounds k = archFind (a.Rounds.drop i) k, fun i => ⟨[(1, vi k), (2, .ptr 0 0), (4, .ptr 1 0), (6, vi i)], [(0, .box [.t (I a.Rows), .t (L DArchivedRound.e a.Rounds)]), (1, .box [.nil])], 2⟩, fun i => a.Rounds.length - i, 0, ⟨Nat.zero_le _, rfl⟩, sub_at2 [(0, 2, 0), (1, 4, 0)] rfl rfl rfl ?_ ?_, fun i hi => ?_⟩
  all_goals repeat' (first | (with_reducible rfl) | ((conv => whnf); first | exact trivial | (with_reducible rfl) | exact (rfl : (0 : Int) = ((0 : Nat) : Int)) | exact w64_nat arith | refine bcase_T (by first | with_reducible rfl | decide) ?_ | refine bcase_F (by first | with_reducible rfl | decide) ?_ | refine bcase_dec (fun _ => ?_) (fun _ => ?_) | refine bcase_not ?_ | refine bcase_intro (fun _ => ?_) (fun _ => ?_) | refine ⟨(by with_reducible rfl), ?_⟩ | refine ⟨congrArg vi ?_, ?_⟩ | refine ⟨congrArg vb ?_, ?_⟩ | refine ⟨rfl, ?_⟩ | refine ⟨(by kernel_rfl : drawOK _ = true), ?_⟩ | refine Or.inl ?_ | refine ⟨⟨congrArg (T.int _) ?_, rfl⟩, ?_⟩ | refine ⟨⟨congrArg T.bool ?_, rfl⟩, ?_⟩ | refine ⟨⟨rfl, Nat.le_of_ble_eq_true rfl⟩, ?_⟩ | refine ⟨⟨rfl, rfl⟩, ?_⟩ | refine ⟨⟨rfl, (by decide)⟩, ?_⟩ | refine ⟨⟨rfl, ?_⟩, ?_⟩ | refine ⟨Or.inr rfl, ?_⟩ | refine ⟨Or.inl rfl, ?_⟩ | refine ⟨⟨⟨rfl, rfl, rfl⟩, ?_⟩, ?_⟩ | refine ⟨_, _, rfl, row_get _ _ arith, rfl, ?_⟩ | refine ⟨Or.inr (by repeat (first | exact trivial | refine ⟨rfl, ?_⟩)), ?_⟩ | refine ⟨(?_ : _ = ([] : List (List T))), ?_⟩ | refine ⟨_, c_l8Copy (a.Rounds[i]'(by omega)).Database (h.2 _ (List.getElem_mem _)), ?_⟩ | refine ⟨i, _, rfl, row_get _ _ (by omega), rfl, ?_⟩ | refine ⟨i + 1, ⟨⟨arith, ?_⟩, arith⟩, sub_at2 [(0, 2, 0), (1, 4, 0)] rfl rfl rfl ?_ ?_⟩ | fail))
  all_goals first
    | (have e : archFind a.Rounds k = none := (by rw [hi.2]; exact firstP_end (by omega)); simp [archDb, archHas, e]; done)
    | (have h0 : i < a.Rounds.length := (by omega); have e : archFind a.Rounds k = some a.Rounds[i] := (by rw [hi.2]; exact (firstP_step h0).trans (if_pos (decide_eq_true (by assumption)))); simp [archDb, archHas, e]; done)
    | (have h0 : i < a.Rounds.length := (by omega); rw [hi.2]; exact (firstP_step h0).trans (if_neg (by simpa using (by assumption))))
    | skip
theorem c_ArchivedDatabase (a : DArchive) (k : Int) (h : bigR a.Rounds) : FnAt Tryz.prog 23 [.agg (DArchive.e a), .one (I k)] [.agg (DDatabase.r (archDb a k)), .one (.s (.bool (archHas a k)))] := by
  have hx := h.1
  have hm := lenm DArchivedRound.e a.Rounds
  refine fn_of Tryz.func23 rfl (by kernel_rfl) rfl ?_
  all_goals repeat' (first | (with_reducible rfl) | ((conv => whnf); first | exact trivial | (with_reducible rfl) | exact (rfl : (0 : Int) = ((0 : Nat) : Int)) | exact w64_nat arith | refine bcase_T (by first | with_reducible rfl | decide) ?_ | refine bcase_F (by first | with_reducible rfl | decide) ?_ | refine bcase_dec (fun _ => ?_) (fun _ => ?_) | refine bcase_not ?_ | refine bcase_intro (fun _ => ?_) (fun _ => ?_) | refine ⟨(by with_reducible rfl), ?_⟩ | refine ⟨congrArg vi ?_, ?_⟩ | refine ⟨congrArg vb ?_, ?_⟩ | refine ⟨rfl, ?_⟩ | refine ⟨(by kernel_rfl : drawOK _ = true), ?_⟩ | refine Or.inl ?_ | refine ⟨⟨congrArg (T.int _) ?_, rfl⟩, ?_⟩ | refine ⟨⟨congrArg T.bool ?_, rfl⟩, ?_⟩ | refine ⟨⟨rfl, Nat.le_of_ble_eq_true rfl⟩, ?_⟩ | refine ⟨⟨rfl, rfl⟩, ?_⟩ | refine ⟨⟨rfl, (by decide)⟩, ?_⟩ | refine ⟨⟨rfl, ?_⟩, ?_⟩ | refine ⟨Or.inr rfl, ?_⟩ | refine ⟨Or.inl rfl, ?_⟩ | refine ⟨⟨⟨rfl, rfl, rfl⟩, ?_⟩, ?_⟩ | refine ⟨_, _, rfl, row_get _ _ arith, rfl, ?_⟩ | refine ⟨Or.inr (by repeat (first | exact trivial | refine ⟨rfl, ?_⟩)), ?_⟩ | refine ⟨(?_ : _ = ([] : List (List T))), ?_⟩ | fail))
  conv => whnf
  refine ⟨Nat, fun i => i ≤ a.Rounds.length ∧ archFind a.Rounds k = archFind (a.Rounds.drop i) k, fun i => ⟨[(1, vi k), (4, .ptr 0 0), (9, vl (a.Rounds.map DArchivedRound.e)), (10, vi a.Rounds.length), (11, vi i)], [(0, .box [.nil])], 1⟩, fun i => a.Rounds.length - i, 0, ⟨Nat.zero_le _, rfl⟩, sub_at2 [(0, 4, 0)] rfl rfl rfl ?_ ?_, fun i hi => ?_⟩
  all_goals repeat' (first | (with_reducible rfl) | ((conv => whnf); first | exact trivial | (with_reducible rfl) | exact (rfl : (0 : Int) = ((0 : Nat) : Int)) | exact w64_nat arith | refine bcase_T (by first | with_reducible rfl | decide) ?_ | refine bcase_F (by first | with_reducible rfl | decide) ?_ | refine bcase_dec (fun _ => ?_) (fun _ => ?_) | refine bcase_not ?_ | refine bcase_intro (fun _ => ?_) (fun _ => ?_) | refine ⟨(by with_reducible rfl), ?_⟩ | refine ⟨congrArg vi ?_, ?_⟩ | refine ⟨congrArg vb ?_, ?_⟩ | refine ⟨rfl, ?_⟩ | refine ⟨(by kernel_rfl : drawOK _ = true), ?_⟩ | refine Or.inl ?_ | refine ⟨⟨congrArg (T.int _) ?_, rfl⟩, ?_⟩ | refine ⟨⟨congrArg T.bool ?_, rfl⟩, ?_⟩ | refine ⟨⟨rfl, Nat.le_of_ble_eq_true rfl⟩, ?_⟩ | refine ⟨⟨rfl, rfl⟩, ?_⟩ | refine ⟨⟨rfl, (by decide)⟩, ?_⟩ | refine ⟨⟨rfl, ?_⟩, ?_⟩ | refine ⟨Or.inr rfl, ?_⟩ | refine ⟨Or.inl rfl, ?_⟩ | refine ⟨⟨⟨rfl, rfl, rfl⟩, ?_⟩, ?_⟩ | refine ⟨_, _, rfl, row_get _ _ arith, rfl, ?_⟩ | refine ⟨Or.inr (by repeat (first | exact trivial | refine ⟨rfl, ?_⟩)), ?_⟩ | refine ⟨(?_ : _ = ([] : List (List T))), ?_⟩ | refine ⟨_, c_copyDatabase (a.Rounds[i]'(by omega)).Database (h.2 _ (List.getElem_mem _)), ?_⟩ | refine ⟨i + 1, ⟨⟨arith, ?_⟩, arith⟩, sub_at2 [(0, 4, 0)] rfl rfl rfl ?_ ?_⟩ | fail))
  all_goals first
    | (rw [List.length_map]; done)
    | (have e : archFind a.Rounds k = none := (by rw [hi.2]; exact firstP_end (by omega)); simp [archDb, archHas, e]; done)
    | (have h0 : i < a.Rounds.length := (by omega); have e : archFind a.Rounds k = some a.Rounds[i] := (by rw [hi.2]; exact (firstP_step h0).trans (if_pos (decide_eq_true (by assumption)))); simp [archDb, archHas, e]; done)
    | (have h0 : i < a.Rounds.length := (by omega); rw [hi.2]; exact (firstP_step h0).trans (if_neg (by simpa using (by assumption))))
    | skip
theorem firstP_mem {α : Type} {p : α → Bool} : ∀ {l : List α} {x : α}, firstP p l = some x → x ∈ l
  | [], _, h => by cases h
  | y :: l, x, h => by
    simp only [firstP] at h
    split at h
    · injection h with h; simp [h]
    · exact List.mem_cons_of_mem _ (firstP_mem h)
theorem szL_append {α : Type} (f : α → Nat) (xs ys : List α) : szL f (xs ++ ys) = szL f xs + szL f ys := by
  simp only [szL, List.length_append, List.map_append, List.sum_append]; omega
theorem szL_drop {α : Type} (f : α → Nat) (n : Nat) (xs : List α) : szL f (xs.drop n) ≤ szL f xs := by
  conv => rhs; rw [← List.take_append_drop n xs, szL_append]
  exact Nat.le_add_left _ _
theorem archDb_sz (a : DArchive) (k : Int) : (archDb a k).sz ≤ a.sz := by
  unfold archDb
  cases h : archFind a.Rounds k with
  | none => simp [DDatabase.sz, szL]
  | some r =>
    have := szL_mem DArchivedRound.sz a.Rounds (firstP_mem h)
    simp only [DArchive.sz, DArchivedRound.sz] at *
    exact this
theorem addRound_sz (a : DArchive) (r : Int) (d : DDatabase) : (addRound a r d).sz ≤ a.sz + d.sz + 1 := by
  have h1 : szL DArchivedRound.sz (withRound a r d) = szL DArchivedRound.sz a.Rounds + (1 + d.sz) := by
    unfold withRound
    rw [szL_append]
    simp [szL, DArchivedRound.sz]
  have h2 := szL_drop DArchivedRound.sz 1 (withRound a r d)
  unfold addRound
  split
  · simp only [DArchive.sz, addRounds]
    split <;> omega
  · simp only [DArchive.sz]; omega
end Go.Proofs.YtmaamiapipngaaaGreat
