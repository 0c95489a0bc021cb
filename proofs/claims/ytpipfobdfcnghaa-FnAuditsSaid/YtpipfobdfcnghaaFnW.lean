/-
  Contracts: databases that are joined by exclusive or.
  Conditions: none.
-/
import Derived.Test.YtpipfobdfcnghaaFnX
namespace Go.Proofs.Ytpipfobdfcnghaa
set_option maxHeartbeats 4000000
set_option maxRecDepth 20000
open Go.Vm Go.RowKit
attribute [local irreducible] FnAt MutAt InAt JAt CurAt FnE CurE RegAt

attribute [local irreducible] xorB
theorem zip_take {α β γ : Type} (f : α → β → γ) (a : List α) (b : List β) {i : Nat} (h1 : i < a.length) (h2 : i < b.length) : (List.zipWith f a b).take (i + 1) = (List.zipWith f a b).take i ++ [f a[i] b[i]] := by
  have h : i < (List.zipWith f a b).length := by rw [List.length_zipWith]; omega
  rw [List.take_succ_eq_append_getElem h]
  simp
def xorOk (a b : DDatabase) : Bool := dbOk a && dbOk b && decide ((a.Rows.length : Int) = (b.Rows.length : Int))
def xorDb (a b : DDatabase) : DDatabase := if xorOk a b then ⟨List.zipWith xorB a.Rows b.Rows⟩ else a
theorem xor_rows (a b : List (List UInt8)) (h : a.length = b.length) {i : Nat} (hi : i = b.length) : Vm.part (fun j x => xorB x (b[j]?.getD [])) a i = List.zipWith xorB a b := by
  rw [part_all (by omega)]
  apply List.ext_getElem?
  intro j
  rw [List.getElem?_mapIdx]
  by_cases hj : j < a.length
  · have hj2 : j < b.length := by omega
    have hz : j < (List.zipWith xorB a b).length := by rw [List.length_zipWith]; omega
    rw [List.getElem?_eq_getElem hj, List.getElem?_eq_getElem hz]
    simp [hj2]
  · have h1 : a[j]? = none := List.getElem?_eq_none (by omega)
    have h2 : (List.zipWith xorB a b)[j]? = none := List.getElem?_eq_none (by rw [List.length_zipWith]; omega)
    rw [h1, h2]
    rfl
theorem bigB_xor {a b : DDatabase} (ha : bigB a.Rows) (hb : bigB b.Rows) : bigB (xorDb a b).Rows := by
  unfold xorDb
  split
  · refine ⟨by simp only [List.length_zipWith]; have := ha.1; omega, fun x hx => ?_⟩
    obtain ⟨i, hi, rfl⟩ := List.getElem_of_mem hx
    simp only [List.length_zipWith] at hi
    simp only [List.getElem_zipWith, xorB_len]
    have h1 := ha.2 _ (List.getElem_mem (show i < a.Rows.length by omega))
    have h2 := hb.2 _ (List.getElem_mem (show i < b.Rows.length by omega))
    omega
  · exact ha
attribute [local irreducible] Vm.part
theorem c_XorDatabases (a b : DDatabase) (ha : bigB a.Rows) (hb : bigB b.Rows) : FnAt Try.prog 62 [.agg (DDatabase.e a), .agg (DDatabase.e b)] [.agg (DDatabase.r (xorDb a b)), .one (.s (.bool (xorOk a b)))] := by
  have hm1 := lenm (eL eU) a.Rows
  have hm2 := lenm (eL eU) b.Rows
  have hb1 := hb.1
  refine fn_of Try.func62 rfl (by kernel_rfl) rfl ?_
  all_goals repeat' (first | (with_reducible rfl) | ((conv => whnf); first | exact trivial | (with_reducible rfl) | exact (rfl : (0 : Int) = ((0 : Nat) : Int)) | exact w64_nat arith | refine bcase_T (by first | with_reducible rfl | decide) ?_ | refine bcase_F (by first | with_reducible rfl | decide) ?_ | refine bcase_dec (fun _ => ?_) (fun _ => ?_) | refine bcase_not ?_ | refine bcase_intro (fun _ => ?_) (fun _ => ?_) | refine ⟨(by with_reducible rfl), ?_⟩ | refine ⟨congrArg vi ?_, ?_⟩ | refine ⟨congrArg vb ?_, ?_⟩ | refine ⟨rfl, ?_⟩ | refine ⟨(by kernel_rfl : drawOK _ = true), ?_⟩ | refine Or.inl ?_ | refine ⟨⟨congrArg (T.int _) ?_, rfl⟩, ?_⟩ | refine ⟨⟨congrArg T.bool ?_, rfl⟩, ?_⟩ | refine ⟨⟨rfl, Nat.le_of_ble_eq_true rfl⟩, ?_⟩ | refine ⟨⟨rfl, rfl⟩, ?_⟩ | refine ⟨⟨rfl, (by decide)⟩, ?_⟩ | refine ⟨⟨rfl, ?_⟩, ?_⟩ | refine ⟨Or.inr rfl, ?_⟩ | refine ⟨Or.inl rfl, ?_⟩ | refine ⟨⟨⟨rfl, rfl, rfl⟩, ?_⟩, ?_⟩ | refine ⟨_, _, rfl, row_get _ _ arith, rfl, ?_⟩ | refine ⟨Or.inr (by repeat (first | exact trivial | refine ⟨rfl, ?_⟩)), ?_⟩ | refine ⟨(?_ : _ = ([] : List (List T))), ?_⟩ | refine ⟨_, c_copyDatabase a ha, ?_⟩ | refine ⟨_, c_IsValidDatabase a ha.1, ?_⟩ | refine ⟨_, c_IsValidDatabase b hb.1, ?_⟩ | fail))
  all_goals first
    | (have e : xorOk a b = false := (by unfold xorOk; grind); first | exact e.symm | (simp only [xorDb, e]; rfl))
    | skip
  have e : xorOk a b = true := by unfold xorOk; grind
  have hl : a.Rows.length = b.Rows.length := by omega
  conv => whnf
  refine ⟨Nat, fun i => i ≤ b.Rows.length, fun i => ⟨[(4, .ptr 0 0), (6, .ptr 1 0), (30, vl (b.Rows.map (eL eU))), (31, vi b.Rows.length), (32, vi i)], [(0, .box [.nil]), (1, .box [.ref 2]), (2, .row true true 1 ((Vm.part (fun j x => xorB x (b.Rows[j]?.getD [])) a.Rows i).map (eL eU)))], 3⟩, fun i => b.Rows.length - i, 0, Nat.zero_le _, sub_at2 [(0, 4, 0), (1, 6, 0), (2, 6, 1)] rfl rfl rfl ?_ ?_, fun i (hi : i ≤ b.Rows.length) => ?_⟩
  all_goals repeat' (first | (with_reducible rfl) | ((conv => whnf); first | exact trivial | (with_reducible rfl) | exact (rfl : (0 : Int) = ((0 : Nat) : Int)) | exact w64_nat arith | refine bcase_T (by first | with_reducible rfl | decide) ?_ | refine bcase_F (by first | with_reducible rfl | decide) ?_ | refine bcase_dec (fun _ => ?_) (fun _ => ?_) | refine bcase_not ?_ | refine bcase_intro (fun _ => ?_) (fun _ => ?_) | refine ⟨(by with_reducible rfl), ?_⟩ | refine ⟨congrArg vi ?_, ?_⟩ | refine ⟨congrArg vb ?_, ?_⟩ | refine ⟨rfl, ?_⟩ | refine ⟨(by kernel_rfl : drawOK _ = true), ?_⟩ | refine Or.inl ?_ | refine ⟨⟨congrArg (T.int _) ?_, rfl⟩, ?_⟩ | refine ⟨⟨congrArg T.bool ?_, rfl⟩, ?_⟩ | refine ⟨⟨rfl, Nat.le_of_ble_eq_true rfl⟩, ?_⟩ | refine ⟨⟨rfl, rfl⟩, ?_⟩ | refine ⟨⟨rfl, (by decide)⟩, ?_⟩ | refine ⟨⟨rfl, ?_⟩, ?_⟩ | refine ⟨Or.inr rfl, ?_⟩ | refine ⟨Or.inl rfl, ?_⟩ | refine ⟨⟨⟨rfl, rfl, rfl⟩, ?_⟩, ?_⟩ | refine ⟨_, _, rfl, row_get _ _ arith, rfl, ?_⟩ | refine ⟨Or.inr (by repeat (first | exact trivial | refine ⟨rfl, ?_⟩)), ?_⟩ | refine ⟨(?_ : _ = ([] : List (List T))), ?_⟩ | refine ⟨_, c_XorBytes (a.Rows[i]'(by omega)) (b.Rows[i]'(by omega)) (ha.2 _ (List.getElem_mem _)) (hb.2 _ (List.getElem_mem _)), ?_⟩ | refine ⟨i, rfl, (by rw [List.length_map, part_len]; omega), ?_⟩ | refine ⟨_, partm_get (eL eU) (by omega), ?_⟩ | refine ⟨_, partm_get (eL eU) (by omega), ⟨rfl, Nat.le_of_ble_eq_true rfl⟩, ?_⟩ | refine ⟨i + 1, ⟨arith, arith⟩, sub_at2 [(0, 4, 0), (1, 6, 0), (2, 6, 1)] rfl rfl rfl ?_ ?_⟩ | fail))
  all_goals first
    | (rw [List.length_map]; done)
    | exact e.symm
    | (rw [part_zero]; done)
    | (simp only [xorDb, e, if_true]; rw [xor_rows a.Rows b.Rows hl (by omega)]; done)
    | (rw [← partm_set (eL eU) (show i < a.Rows.length by omega)]; congr 1; have h0 : i < b.Rows.length := (by omega); have e3 : b.Rows[i]?.getD [] = b.Rows[i] := (by simp [h0]); rw [e3]; rfl)
    | skip
theorem c_sXorDatabases (a b : DDatabase) (ha : bigB a.Rows) (hb : bigB b.Rows) : FnAt Try.prog 64 [.agg (DDatabase.e a), .agg (DDatabase.e b)] [.agg (DDatabase.r (xorDb a b)), .one (.s (.bool (xorOk a b)))] := by
  have hm1 := lenm (eL eU) a.Rows
  have hm2 := lenm (eL eU) b.Rows
  refine fn_of Try.func64 rfl (by kernel_rfl) rfl ?_
  all_goals repeat' (first | (with_reducible rfl) | ((conv => whnf); first | exact trivial | (with_reducible rfl) | exact (rfl : (0 : Int) = ((0 : Nat) : Int)) | exact w64_nat arith | refine bcase_T (by first | with_reducible rfl | decide) ?_ | refine bcase_F (by first | with_reducible rfl | decide) ?_ | refine bcase_dec (fun _ => ?_) (fun _ => ?_) | refine bcase_not ?_ | refine bcase_intro (fun _ => ?_) (fun _ => ?_) | refine ⟨(by with_reducible rfl), ?_⟩ | refine ⟨congrArg vi ?_, ?_⟩ | refine ⟨congrArg vb ?_, ?_⟩ | refine ⟨rfl, ?_⟩ | refine ⟨(by kernel_rfl : drawOK _ = true), ?_⟩ | refine Or.inl ?_ | refine ⟨⟨congrArg (T.int _) ?_, rfl⟩, ?_⟩ | refine ⟨⟨congrArg T.bool ?_, rfl⟩, ?_⟩ | refine ⟨⟨rfl, Nat.le_of_ble_eq_true rfl⟩, ?_⟩ | refine ⟨⟨rfl, rfl⟩, ?_⟩ | refine ⟨⟨rfl, (by decide)⟩, ?_⟩ | refine ⟨⟨rfl, ?_⟩, ?_⟩ | refine ⟨Or.inr rfl, ?_⟩ | refine ⟨Or.inl rfl, ?_⟩ | refine ⟨⟨⟨rfl, rfl, rfl⟩, ?_⟩, ?_⟩ | refine ⟨_, _, rfl, row_get _ _ arith, rfl, ?_⟩ | refine ⟨Or.inr (by repeat (first | exact trivial | refine ⟨rfl, ?_⟩)), ?_⟩ | refine ⟨(?_ : _ = ([] : List (List T))), ?_⟩ | refine ⟨_, c_l8Copy a ha, ?_⟩ | refine ⟨_, c_sIsValidDatabase a ha.1, ?_⟩ | refine ⟨_, c_sIsValidDatabase b hb.1, ?_⟩ | fail))
  all_goals first
    | (have e : xorOk a b = false := (by unfold xorOk; grind); first | exact e.symm | (simp only [xorDb, e]; rfl))
    | skip
  have e : xorOk a b = true := by unfold xorOk; grind
  have hl : a.Rows.length = b.Rows.length := by omega
  have hz : (List.zipWith xorB a.Rows b.Rows).length = a.Rows.length := by rw [List.length_zipWith]; omega
  have ha1 := ha.1
  conv => whnf
  refine ⟨Nat, fun i => i ≤ a.Rows.length, fun i => ⟨[(2, .ptr 0 0), (3, .ptr 1 0), (4, .ptr 2 0), (6, .ptr 3 0), (7, vi i)], [(0, .box [.t (L (eL eU) a.Rows)]), (1, .box [.t (L (eL eU) b.Rows)]), (2, .box [.nil]), (3, .box [.ref 4]), (4, .row true true 1 (((List.zipWith xorB a.Rows b.Rows).take i).map (eL eU)))], 5⟩, fun i => a.Rows.length - i, 0, Nat.zero_le _, sub_at2 [(0, 2, 0), (1, 3, 0), (2, 4, 0), (3, 6, 0), (4, 6, 1)] rfl rfl rfl ?_ ?_, fun i (hi : i ≤ a.Rows.length) => ?_⟩
  all_goals repeat' (first | (with_reducible rfl) | ((conv => whnf); first | exact trivial | (with_reducible rfl) | exact (rfl : (0 : Int) = ((0 : Nat) : Int)) | exact w64_nat arith | refine bcase_T (by first | with_reducible rfl | decide) ?_ | refine bcase_F (by first | with_reducible rfl | decide) ?_ | refine bcase_dec (fun _ => ?_) (fun _ => ?_) | refine bcase_not ?_ | refine bcase_intro (fun _ => ?_) (fun _ => ?_) | refine ⟨(by with_reducible rfl), ?_⟩ | refine ⟨congrArg vi ?_, ?_⟩ | refine ⟨congrArg vb ?_, ?_⟩ | refine ⟨rfl, ?_⟩ | refine ⟨(by kernel_rfl : drawOK _ = true), ?_⟩ | refine Or.inl ?_ | refine ⟨⟨congrArg (T.int _) ?_, rfl⟩, ?_⟩ | refine ⟨⟨congrArg T.bool ?_, rfl⟩, ?_⟩ | refine ⟨⟨rfl, Nat.le_of_ble_eq_true rfl⟩, ?_⟩ | refine ⟨⟨rfl, rfl⟩, ?_⟩ | refine ⟨⟨rfl, (by decide)⟩, ?_⟩ | refine ⟨⟨rfl, ?_⟩, ?_⟩ | refine ⟨Or.inr rfl, ?_⟩ | refine ⟨Or.inl rfl, ?_⟩ | refine ⟨⟨⟨rfl, rfl, rfl⟩, ?_⟩, ?_⟩ | refine ⟨_, _, rfl, row_get _ _ arith, rfl, ?_⟩ | refine ⟨Or.inr (by repeat (first | exact trivial | refine ⟨rfl, ?_⟩)), ?_⟩ | refine ⟨(?_ : _ = ([] : List (List T))), ?_⟩ | refine ⟨_, c_sXorBytes (a.Rows[i]'(by omega)) (b.Rows[i]'(by omega)) (ha.2 _ (List.getElem_mem _)) (hb.2 _ (List.getElem_mem _)), ?_⟩ | refine ⟨i, _, rfl, row_get _ _ (by omega), rfl, ?_⟩ | refine ⟨⟨bnd, bnd⟩, ?_⟩ | refine ⟨i + 1, ⟨arith, arith⟩, sub_at2 [(0, 2, 0), (1, 3, 0), (2, 4, 0), (3, 6, 0), (4, 6, 1)] rfl rfl rfl ?_ ?_⟩ | fail))
  all_goals first
    | exact e.symm
    | (rw [zip_take xorB a.Rows b.Rows (by omega) (by omega), List.map_append]; rfl)
    | (simp only [xorDb, e, if_true]; rw [List.take_of_length_le (by omega)]; done)
    | (simp; done)
    | skip
/-- Databases joined from the left; none where two do not fit. -/
def joinF (d : DDatabase) : List DDatabase → Option DDatabase
  | [] => some d
  | s :: r => if xorOk d s then joinF (xorDb d s) r else none
def joinW (l : List DDatabase) : Option DDatabase := match l with
  | [] => none
  | d :: r => if inR l.length 2 4 then joinF d r else none
def joinDb (l : List DDatabase) : DDatabase := (joinW l).getD ⟨[]⟩
def joinHas (l : List DDatabase) : Bool := (joinW l).isSome
theorem joinF_step {d : DDatabase} {l : List DDatabase} {i : Nat} (h : i < l.length) : joinF d (l.drop i) = if xorOk d l[i] then joinF (xorDb d l[i]) (l.drop (i + 1)) else none := by
  rw [List.drop_eq_getElem_cons h]
  rfl
theorem joinF_end {d : DDatabase} {l : List DDatabase} {i : Nat} (h : l.length ≤ i) : joinF d (l.drop i) = some d := by rw [List.drop_of_length_le h]; rfl
theorem joinW_T {l : List DDatabase} (h : inR l.length 2 4 = true) : joinW l = joinF (l[0]'(by have := inR_iff.1 h; omega)) (l.drop 1) := by
  cases l with
  | nil => simp [inR] at h
  | cons d r => simp only [joinW, h, if_true]; rfl
theorem joinW_F {l : List DDatabase} (h : inR l.length 2 4 = false) : joinW l = none := by
  cases l with
  | nil => rfl
  | cons d r => simp only [joinW, h]; rfl
theorem joinW_bad {l : List DDatabase} (h : inR l.length 2 4 = true) (hd : dbOk (l[0]'(by have := inR_iff.1 h; omega)) = false) : joinW l = none := by
  have h2 := inR_iff.1 h
  rw [joinW_T h, joinF_step (show 1 < l.length by omega)]
  have e : xorOk (l[0]'(by omega)) (l[1]'(by omega)) = false := by unfold xorOk; rw [hd]; rfl
  rw [e]
  rfl
def bigL (l : List DDatabase) : Prop := l.length ≤ 1099511627776 ∧ ∀ d ∈ l, bigB d.Rows
theorem c_isServerCount (a : Int) : FnAt Try.prog 61 [.one (I a)] [.one (.s (.bool (inR a 2 4)))] := by
  refine fn_of Try.func61 rfl (by kernel_rfl) rfl ?_
  all_goals repeat' (first | (with_reducible rfl) | ((conv => whnf); first | exact trivial | (with_reducible rfl) | exact (rfl : (0 : Int) = ((0 : Nat) : Int)) | exact w64_nat arith | refine bcase_T (by first | with_reducible rfl | decide) ?_ | refine bcase_F (by first | with_reducible rfl | decide) ?_ | refine bcase_dec (fun _ => ?_) (fun _ => ?_) | refine bcase_not ?_ | refine bcase_intro (fun _ => ?_) (fun _ => ?_) | refine ⟨(by with_reducible rfl), ?_⟩ | refine ⟨congrArg vi ?_, ?_⟩ | refine ⟨congrArg vb ?_, ?_⟩ | refine ⟨rfl, ?_⟩ | refine ⟨(by kernel_rfl : drawOK _ = true), ?_⟩ | refine Or.inl ?_ | refine ⟨⟨congrArg (T.int _) ?_, rfl⟩, ?_⟩ | refine ⟨⟨congrArg T.bool ?_, rfl⟩, ?_⟩ | refine ⟨⟨rfl, Nat.le_of_ble_eq_true rfl⟩, ?_⟩ | refine ⟨⟨rfl, rfl⟩, ?_⟩ | refine ⟨⟨rfl, (by decide)⟩, ?_⟩ | refine ⟨⟨rfl, ?_⟩, ?_⟩ | refine ⟨Or.inr rfl, ?_⟩ | refine ⟨Or.inl rfl, ?_⟩ | refine ⟨⟨⟨rfl, rfl, rfl⟩, ?_⟩, ?_⟩ | refine ⟨_, _, rfl, row_get _ _ arith, rfl, ?_⟩ | refine ⟨Or.inr (by repeat (first | exact trivial | refine ⟨rfl, ?_⟩)), ?_⟩ | refine ⟨(?_ : _ = ([] : List (List T))), ?_⟩ | refine ⟨_, c_InRange _ _ _, ?_⟩ | fail))
  all_goals rfl
theorem c_l7Count (a : Int) : FnAt Try.prog 63 [.one (I a)] [.one (.s (.bool (inR a 2 4)))] := by
  refine fn_of Try.func63 rfl (by kernel_rfl) rfl ?_
  all_goals repeat' (first | (with_reducible rfl) | ((conv => whnf); first | exact trivial | (with_reducible rfl) | exact (rfl : (0 : Int) = ((0 : Nat) : Int)) | exact w64_nat arith | refine bcase_T (by first | with_reducible rfl | decide) ?_ | refine bcase_F (by first | with_reducible rfl | decide) ?_ | refine bcase_dec (fun _ => ?_) (fun _ => ?_) | refine bcase_not ?_ | refine bcase_intro (fun _ => ?_) (fun _ => ?_) | refine ⟨(by with_reducible rfl), ?_⟩ | refine ⟨congrArg vi ?_, ?_⟩ | refine ⟨congrArg vb ?_, ?_⟩ | refine ⟨rfl, ?_⟩ | refine ⟨(by kernel_rfl : drawOK _ = true), ?_⟩ | refine Or.inl ?_ | refine ⟨⟨congrArg (T.int _) ?_, rfl⟩, ?_⟩ | refine ⟨⟨congrArg T.bool ?_, rfl⟩, ?_⟩ | refine ⟨⟨rfl, Nat.le_of_ble_eq_true rfl⟩, ?_⟩ | refine ⟨⟨rfl, rfl⟩, ?_⟩ | refine ⟨⟨rfl, (by decide)⟩, ?_⟩ | refine ⟨⟨rfl, ?_⟩, ?_⟩ | refine ⟨Or.inr rfl, ?_⟩ | refine ⟨Or.inl rfl, ?_⟩ | refine ⟨⟨⟨rfl, rfl, rfl⟩, ?_⟩, ?_⟩ | refine ⟨_, _, rfl, row_get _ _ arith, rfl, ?_⟩ | refine ⟨Or.inr (by repeat (first | exact trivial | refine ⟨rfl, ?_⟩)), ?_⟩ | refine ⟨(?_ : _ = ([] : List (List T))), ?_⟩ | refine ⟨_, c_l1In _ _ _, ?_⟩ | fail))
  all_goals rfl
theorem row_get' {α : Type} (f : α → List T) (xs : List α) {i j : Nat} (h : i < xs.length) (e : j = i) : (xs.map f)[j]? = some (f xs[i]) := by subst e; exact row_get f xs h
/-- The state of a join: what has been joined, the rest. -/
structure JoinSt where
  i : Nat
  d : DDatabase
theorem c_JoinWrites (l : List DDatabase) (h : bigL l) : FnAt Try.prog 34 [.one (L DDatabase.e l)] [.agg (DDatabase.r (joinDb l)), .one (.s (.bool (joinHas l)))] := by
  have hx := h.1
  have hm := lenm DDatabase.e l
  by_cases hc : inR ((l.map DDatabase.e).length : Int) 2 4 = true
  · have h9 := inR_iff.1 hc
    have hc2 : inR (l.length : Int) 2 4 = true := by rw [← hm]; exact hc
    have hw := joinW_T hc2
    refine fn_of Try.func34 rfl (by kernel_rfl) rfl ?_
    all_goals repeat' (first | (with_reducible rfl) | ((conv => whnf); first | refine ⟨_, c_isServerCount _, ?_⟩ | refine bcase_F (by rw [hc]; rfl) ?_ | refine ⟨0, _, rfl, row_get _ _ (by omega), rfl, ?_⟩ | refine ⟨_, c_copyDatabase (l[0]'(by omega)) (h.2 _ (List.getElem_mem _)), ?_⟩ | refine ⟨1, _, rfl, rfl, ⟨(by omega), Nat.le_refl _⟩, (by intro r hr; obtain ⟨_, _, rfl⟩ := List.mem_map.1 hr; rfl), ?_⟩ | exact trivial | (with_reducible rfl) | exact (rfl : (0 : Int) = ((0 : Nat) : Int)) | exact w64_nat arith | refine bcase_T (by first | with_reducible rfl | decide) ?_ | refine bcase_F (by first | with_reducible rfl | decide) ?_ | refine bcase_dec (fun _ => ?_) (fun _ => ?_) | refine bcase_not ?_ | refine bcase_intro (fun _ => ?_) (fun _ => ?_) | refine ⟨(by with_reducible rfl), ?_⟩ | refine ⟨congrArg vi ?_, ?_⟩ | refine ⟨congrArg vb ?_, ?_⟩ | refine ⟨rfl, ?_⟩ | refine ⟨(by kernel_rfl : drawOK _ = true), ?_⟩ | refine Or.inl ?_ | refine ⟨⟨congrArg (T.int _) ?_, rfl⟩, ?_⟩ | refine ⟨⟨congrArg T.bool ?_, rfl⟩, ?_⟩ | refine ⟨⟨rfl, Nat.le_of_ble_eq_true rfl⟩, ?_⟩ | refine ⟨⟨rfl, rfl⟩, ?_⟩ | refine ⟨⟨rfl, (by decide)⟩, ?_⟩ | refine ⟨⟨rfl, ?_⟩, ?_⟩ | refine ⟨Or.inr rfl, ?_⟩ | refine ⟨Or.inl rfl, ?_⟩ | refine ⟨⟨⟨rfl, rfl, rfl⟩, ?_⟩, ?_⟩ | refine ⟨_, _, rfl, row_get _ _ arith, rfl, ?_⟩ | refine ⟨Or.inr (by repeat (first | exact trivial | refine ⟨rfl, ?_⟩)), ?_⟩ | refine ⟨(?_ : _ = ([] : List (List T))), ?_⟩ | fail))
    obtain ⟨r, hr⟩ : ∃ r, r = l.drop 1 := ⟨_, rfl⟩
    rw [← hr] at hw
    have hv : ((l.map DDatabase.e).take (l.map DDatabase.e).length).drop 1 = r.map DDatabase.e := by rw [List.take_length, ← List.map_drop, ← hr]
    have hrl : r.length + 1 = l.length := by rw [hr, List.length_drop]; omega
    have hrb : ∀ (i : Nat) (hi : i < r.length), bigB (r[i]'hi).Rows := fun i hi => h.2 _ (List.mem_of_mem_drop (by rw [← hr]; exact List.getElem_mem hi))
    have hvl : (((l.map DDatabase.e).take (l.map DDatabase.e).length).drop 1).length = r.length := by rw [hv, List.length_map]
    conv => whnf
    refine ⟨JoinSt, fun s => s.i ≤ r.length ∧ bigB s.d.Rows ∧ joinW l = joinF s.d (r.drop s.i), fun s => ⟨[(2, .ptr 0 0), (4, .ptr 1 0), (19, vl (((l.map DDatabase.e).take (l.map DDatabase.e).length).drop 1)), (20, vi (r.length : Nat)), (21, vi s.i)], [(0, .box [.nil]), (1, .box [.ref 2]), (2, .row true true 1 (s.d.Rows.map (eL eU)))], 3⟩, fun s => r.length - s.i, ⟨0, l[0]'(by omega)⟩, ⟨Nat.zero_le _, h.2 _ (List.getElem_mem _), hw⟩, sub_at2 [(0, 2, 0), (1, 4, 0), (2, 4, 1)] rfl rfl rfl ?_ ?_, fun s hs => ?_⟩
    all_goals repeat' (first | (with_reducible rfl) | ((conv => whnf); first | exact trivial | (with_reducible rfl) | exact (rfl : (0 : Int) = ((0 : Nat) : Int)) | exact w64_nat arith | refine bcase_T (by first | with_reducible rfl | decide) ?_ | refine bcase_F (by first | with_reducible rfl | decide) ?_ | refine bcase_dec (fun _ => ?_) (fun _ => ?_) | refine bcase_not ?_ | refine bcase_intro (fun _ => ?_) (fun _ => ?_) | refine ⟨(by with_reducible rfl), ?_⟩ | refine ⟨congrArg vi ?_, ?_⟩ | refine ⟨congrArg vb ?_, ?_⟩ | refine ⟨rfl, ?_⟩ | refine ⟨(by kernel_rfl : drawOK _ = true), ?_⟩ | refine Or.inl ?_ | refine ⟨⟨congrArg (T.int _) ?_, rfl⟩, ?_⟩ | refine ⟨⟨congrArg T.bool ?_, rfl⟩, ?_⟩ | refine ⟨⟨rfl, Nat.le_of_ble_eq_true rfl⟩, ?_⟩ | refine ⟨⟨rfl, rfl⟩, ?_⟩ | refine ⟨⟨rfl, (by decide)⟩, ?_⟩ | refine ⟨⟨rfl, ?_⟩, ?_⟩ | refine ⟨Or.inr rfl, ?_⟩ | refine ⟨Or.inl rfl, ?_⟩ | refine ⟨⟨⟨rfl, rfl, rfl⟩, ?_⟩, ?_⟩ | refine ⟨_, _, rfl, row_get _ _ arith, rfl, ?_⟩ | refine ⟨Or.inr (by repeat (first | exact trivial | refine ⟨rfl, ?_⟩)), ?_⟩ | refine ⟨(?_ : _ = ([] : List (List T))), ?_⟩ | refine ⟨s.i, DDatabase.e (r[s.i]'(by omega)), rfl, (by rw [hv]; exact row_get _ _ _), rfl, ?_⟩ | refine ⟨_, c_XorDatabases s.d (r[s.i]'(by omega)) hs.2.1 (hrb _ _), ?_⟩ | refine ⟨⟨s.i + 1, xorDb s.d (r[s.i]'(by omega))⟩, ⟨⟨(by dsimp only; omega), bigB_xor hs.2.1 (hrb _ _), ?_⟩, (by dsimp only; omega)⟩, sub_at2 [(0, 2, 0), (1, 4, 0), (2, 4, 1)] rfl rfl rfl ?_ ?_⟩ | fail))
    all_goals first
      | exact congrArg (fun n : Nat => (n : Int)) hvl
      | (have e : joinW l = none := (by rw [hs.2.2, joinF_step (by omega), if_neg (by simp_all)]); simp [joinDb, joinHas, e]; done)
      | (have e : joinW l = some s.d := (by rw [hs.2.2, joinF_end (by omega)]); simp [joinDb, joinHas, e]; done)
      | (rw [hs.2.2, joinF_step (by omega), if_pos (by assumption)]; done)
      | skip
  · have hc2 : inR (l.length : Int) 2 4 = false := by rw [← hm]; exact eq_false_of_ne_true hc
    have e := joinW_F hc2
    refine fn_of Try.func34 rfl (by kernel_rfl) rfl ?_
    all_goals repeat' (first | (with_reducible rfl) | ((conv => whnf); first | refine ⟨_, c_isServerCount _, ?_⟩ | refine bcase_T (by rw [eq_false_of_ne_true hc]; rfl) ?_ | exact trivial | (with_reducible rfl) | exact (rfl : (0 : Int) = ((0 : Nat) : Int)) | exact w64_nat arith | refine bcase_T (by first | with_reducible rfl | decide) ?_ | refine bcase_F (by first | with_reducible rfl | decide) ?_ | refine bcase_dec (fun _ => ?_) (fun _ => ?_) | refine bcase_not ?_ | refine bcase_intro (fun _ => ?_) (fun _ => ?_) | refine ⟨(by with_reducible rfl), ?_⟩ | refine ⟨congrArg vi ?_, ?_⟩ | refine ⟨congrArg vb ?_, ?_⟩ | refine ⟨rfl, ?_⟩ | refine ⟨(by kernel_rfl : drawOK _ = true), ?_⟩ | refine Or.inl ?_ | refine ⟨⟨congrArg (T.int _) ?_, rfl⟩, ?_⟩ | refine ⟨⟨congrArg T.bool ?_, rfl⟩, ?_⟩ | refine ⟨⟨rfl, Nat.le_of_ble_eq_true rfl⟩, ?_⟩ | refine ⟨⟨rfl, rfl⟩, ?_⟩ | refine ⟨⟨rfl, (by decide)⟩, ?_⟩ | refine ⟨⟨rfl, ?_⟩, ?_⟩ | refine ⟨Or.inr rfl, ?_⟩ | refine ⟨Or.inl rfl, ?_⟩ | refine ⟨⟨⟨rfl, rfl, rfl⟩, ?_⟩, ?_⟩ | refine ⟨_, _, rfl, row_get _ _ arith, rfl, ?_⟩ | refine ⟨Or.inr (by repeat (first | exact trivial | refine ⟨rfl, ?_⟩)), ?_⟩ | refine ⟨(?_ : _ = ([] : List (List T))), ?_⟩ | fail))
    all_goals (simp [joinDb, joinHas, e]; done)
theorem c_sJoinWrites (l : List DDatabase) (h : bigL l) : FnAt Try.prog 36 [.one (L DDatabase.e l)] [.agg (DDatabase.r (joinDb l)), .one (.s (.bool (joinHas l)))] := by
  have hx := h.1
  have hm := lenm DDatabase.e l
  by_cases hc : inR ((l.map DDatabase.e).length : Int) 2 4 = true
  · have h9 := inR_iff.1 hc
    have hc2 : inR (l.length : Int) 2 4 = true := by rw [← hm]; exact hc
    have hw := joinW_T hc2
    cases hd : dbOk (l[0]'(by omega)) with
    | false =>
      have e := joinW_bad hc2 hd
      refine fn_of Try.func36 rfl (by kernel_rfl) rfl ?_
      all_goals repeat' (first | (with_reducible rfl) | ((conv => whnf); first | refine ⟨_, c_l7Count _, ?_⟩ | refine bcase_F (by rw [hc]; rfl) ?_ | refine bcase_T (by rw [hd]; rfl) ?_ | refine ⟨0, _, rfl, row_get _ _ (by omega), rfl, ?_⟩ | refine ⟨_, c_sIsValidDatabase (l[0]'(by omega)) (h.2 _ (List.getElem_mem _)).1, ?_⟩ | exact trivial | (with_reducible rfl) | exact (rfl : (0 : Int) = ((0 : Nat) : Int)) | exact w64_nat arith | refine bcase_T (by first | with_reducible rfl | decide) ?_ | refine bcase_F (by first | with_reducible rfl | decide) ?_ | refine bcase_dec (fun _ => ?_) (fun _ => ?_) | refine bcase_not ?_ | refine bcase_intro (fun _ => ?_) (fun _ => ?_) | refine ⟨(by with_reducible rfl), ?_⟩ | refine ⟨congrArg vi ?_, ?_⟩ | refine ⟨congrArg vb ?_, ?_⟩ | refine ⟨rfl, ?_⟩ | refine ⟨(by kernel_rfl : drawOK _ = true), ?_⟩ | refine Or.inl ?_ | refine ⟨⟨congrArg (T.int _) ?_, rfl⟩, ?_⟩ | refine ⟨⟨congrArg T.bool ?_, rfl⟩, ?_⟩ | refine ⟨⟨rfl, Nat.le_of_ble_eq_true rfl⟩, ?_⟩ | refine ⟨⟨rfl, rfl⟩, ?_⟩ | refine ⟨⟨rfl, (by decide)⟩, ?_⟩ | refine ⟨⟨rfl, ?_⟩, ?_⟩ | refine ⟨Or.inr rfl, ?_⟩ | refine ⟨Or.inl rfl, ?_⟩ | refine ⟨⟨⟨rfl, rfl, rfl⟩, ?_⟩, ?_⟩ | refine ⟨_, _, rfl, row_get _ _ arith, rfl, ?_⟩ | refine ⟨Or.inr (by repeat (first | exact trivial | refine ⟨rfl, ?_⟩)), ?_⟩ | refine ⟨(?_ : _ = ([] : List (List T))), ?_⟩ | fail))
      all_goals (simp [joinDb, joinHas, e]; done)
    | true =>
      refine fn_of Try.func36 rfl (by kernel_rfl) rfl ?_
      all_goals repeat' (first | (with_reducible rfl) | ((conv => whnf); first | refine ⟨_, c_l7Count _, ?_⟩ | refine bcase_F (by rw [hc]; rfl) ?_ | refine bcase_F (by rw [hd]; rfl) ?_ | refine ⟨0, _, rfl, row_get _ _ (by omega), rfl, ?_⟩ | refine ⟨_, c_sIsValidDatabase (l[0]'(by omega)) (h.2 _ (List.getElem_mem _)).1, ?_⟩ | refine ⟨_, c_l8Copy (l[0]'(by omega)) (h.2 _ (List.getElem_mem _)), ?_⟩ | exact trivial | (with_reducible rfl) | exact (rfl : (0 : Int) = ((0 : Nat) : Int)) | exact w64_nat arith | refine bcase_T (by first | with_reducible rfl | decide) ?_ | refine bcase_F (by first | with_reducible rfl | decide) ?_ | refine bcase_dec (fun _ => ?_) (fun _ => ?_) | refine bcase_not ?_ | refine bcase_intro (fun _ => ?_) (fun _ => ?_) | refine ⟨(by with_reducible rfl), ?_⟩ | refine ⟨congrArg vi ?_, ?_⟩ | refine ⟨congrArg vb ?_, ?_⟩ | refine ⟨rfl, ?_⟩ | refine ⟨(by kernel_rfl : drawOK _ = true), ?_⟩ | refine Or.inl ?_ | refine ⟨⟨congrArg (T.int _) ?_, rfl⟩, ?_⟩ | refine ⟨⟨congrArg T.bool ?_, rfl⟩, ?_⟩ | refine ⟨⟨rfl, Nat.le_of_ble_eq_true rfl⟩, ?_⟩ | refine ⟨⟨rfl, rfl⟩, ?_⟩ | refine ⟨⟨rfl, (by decide)⟩, ?_⟩ | refine ⟨⟨rfl, ?_⟩, ?_⟩ | refine ⟨Or.inr rfl, ?_⟩ | refine ⟨Or.inl rfl, ?_⟩ | refine ⟨⟨⟨rfl, rfl, rfl⟩, ?_⟩, ?_⟩ | refine ⟨_, _, rfl, row_get _ _ arith, rfl, ?_⟩ | refine ⟨Or.inr (by repeat (first | exact trivial | refine ⟨rfl, ?_⟩)), ?_⟩ | refine ⟨(?_ : _ = ([] : List (List T))), ?_⟩ | fail))
      conv => whnf
      refine ⟨JoinSt, fun s => s.i ≤ l.length ∧ bigB s.d.Rows ∧ joinW l = joinF s.d (l.drop s.i), fun s => ⟨[(0, vl (l.map DDatabase.e)), (2, .ptr 0 0), (4, .ptr 1 0), (5, vi s.i)], [(0, .box [.nil]), (1, .box [.ref 2]), (2, .row true true 1 (s.d.Rows.map (eL eU)))], 3⟩, fun s => l.length - s.i, ⟨1, l[0]'(by omega)⟩, ⟨by dsimp only; omega, h.2 _ (List.getElem_mem _), hw⟩, sub_at2 [(0, 2, 0), (1, 4, 0), (2, 4, 1)] rfl rfl rfl ?_ ?_, fun s hs => ?_⟩
      all_goals repeat' (first | (with_reducible rfl) | ((conv => whnf); first | exact trivial | (with_reducible rfl) | exact (rfl : (0 : Int) = ((0 : Nat) : Int)) | exact w64_nat arith | refine bcase_T (by first | with_reducible rfl | decide) ?_ | refine bcase_F (by first | with_reducible rfl | decide) ?_ | refine bcase_dec (fun _ => ?_) (fun _ => ?_) | refine bcase_not ?_ | refine bcase_intro (fun _ => ?_) (fun _ => ?_) | refine ⟨(by with_reducible rfl), ?_⟩ | refine ⟨congrArg vi ?_, ?_⟩ | refine ⟨congrArg vb ?_, ?_⟩ | refine ⟨rfl, ?_⟩ | refine ⟨(by kernel_rfl : drawOK _ = true), ?_⟩ | refine Or.inl ?_ | refine ⟨⟨congrArg (T.int _) ?_, rfl⟩, ?_⟩ | refine ⟨⟨congrArg T.bool ?_, rfl⟩, ?_⟩ | refine ⟨⟨rfl, Nat.le_of_ble_eq_true rfl⟩, ?_⟩ | refine ⟨⟨rfl, rfl⟩, ?_⟩ | refine ⟨⟨rfl, (by decide)⟩, ?_⟩ | refine ⟨⟨rfl, ?_⟩, ?_⟩ | refine ⟨Or.inr rfl, ?_⟩ | refine ⟨Or.inl rfl, ?_⟩ | refine ⟨⟨⟨rfl, rfl, rfl⟩, ?_⟩, ?_⟩ | refine ⟨_, _, rfl, row_get _ _ arith, rfl, ?_⟩ | refine ⟨Or.inr (by repeat (first | exact trivial | refine ⟨rfl, ?_⟩)), ?_⟩ | refine ⟨(?_ : _ = ([] : List (List T))), ?_⟩ | refine ⟨s.i, DDatabase.e (l[s.i]'(by omega)), rfl, row_get _ _ _, rfl, ?_⟩ | refine ⟨_, c_sXorDatabases s.d (l[s.i]'(by omega)) hs.2.1 (h.2 _ (List.getElem_mem _)), ?_⟩ | refine ⟨⟨s.i + 1, xorDb s.d (l[s.i]'(by omega))⟩, ⟨⟨(by dsimp only; omega), bigB_xor hs.2.1 (h.2 _ (List.getElem_mem _)), ?_⟩, (by dsimp only; omega)⟩, sub_at2 [(0, 2, 0), (1, 4, 0), (2, 4, 1)] rfl rfl rfl ?_ ?_⟩ | fail))
      all_goals first
        | rfl
        | (have e : joinW l = none := (by rw [hs.2.2, joinF_step (by omega), if_neg (by simp_all)]); simp [joinDb, joinHas, e]; done)
        | (have e : joinW l = some s.d := (by rw [hs.2.2, joinF_end (by omega)]); simp [joinDb, joinHas, e]; done)
        | (rw [hs.2.2, joinF_step (by omega), if_pos (by assumption)]; done)
        | skip
  · have hc2 : inR (l.length : Int) 2 4 = false := by rw [← hm]; exact eq_false_of_ne_true hc
    have e := joinW_F hc2
    refine fn_of Try.func36 rfl (by kernel_rfl) rfl ?_
    all_goals repeat' (first | (with_reducible rfl) | ((conv => whnf); first | refine ⟨_, c_l7Count _, ?_⟩ | refine bcase_T (by rw [eq_false_of_ne_true hc]; rfl) ?_ | exact trivial | (with_reducible rfl) | exact (rfl : (0 : Int) = ((0 : Nat) : Int)) | exact w64_nat arith | refine bcase_T (by first | with_reducible rfl | decide) ?_ | refine bcase_F (by first | with_reducible rfl | decide) ?_ | refine bcase_dec (fun _ => ?_) (fun _ => ?_) | refine bcase_not ?_ | refine bcase_intro (fun _ => ?_) (fun _ => ?_) | refine ⟨(by with_reducible rfl), ?_⟩ | refine ⟨congrArg vi ?_, ?_⟩ | refine ⟨congrArg vb ?_, ?_⟩ | refine ⟨rfl, ?_⟩ | refine ⟨(by kernel_rfl : drawOK _ = true), ?_⟩ | refine Or.inl ?_ | refine ⟨⟨congrArg (T.int _) ?_, rfl⟩, ?_⟩ | refine ⟨⟨congrArg T.bool ?_, rfl⟩, ?_⟩ | refine ⟨⟨rfl, Nat.le_of_ble_eq_true rfl⟩, ?_⟩ | refine ⟨⟨rfl, rfl⟩, ?_⟩ | refine ⟨⟨rfl, (by decide)⟩, ?_⟩ | refine ⟨⟨rfl, ?_⟩, ?_⟩ | refine ⟨Or.inr rfl, ?_⟩ | refine ⟨Or.inl rfl, ?_⟩ | refine ⟨⟨⟨rfl, rfl, rfl⟩, ?_⟩, ?_⟩ | refine ⟨_, _, rfl, row_get _ _ arith, rfl, ?_⟩ | refine ⟨Or.inr (by repeat (first | exact trivial | refine ⟨rfl, ?_⟩)), ?_⟩ | refine ⟨(?_ : _ = ([] : List (List T))), ?_⟩ | fail))
    all_goals (simp [joinDb, joinHas, e]; done)
theorem c_sRoundDatabase (l : List DDatabase) (h : bigL l) : FnAt Try.prog 35 [.one (L DDatabase.e l)] [.agg (DDatabase.r (joinDb l)), .one (.s (.bool (joinHas l)))] := by
  refine fn_of Try.func35 rfl (by kernel_rfl) rfl ?_
  all_goals repeat' (first | (with_reducible rfl) | ((conv => whnf); first | exact trivial | (with_reducible rfl) | exact (rfl : (0 : Int) = ((0 : Nat) : Int)) | exact w64_nat arith | refine bcase_T (by first | with_reducible rfl | decide) ?_ | refine bcase_F (by first | with_reducible rfl | decide) ?_ | refine bcase_dec (fun _ => ?_) (fun _ => ?_) | refine bcase_not ?_ | refine bcase_intro (fun _ => ?_) (fun _ => ?_) | refine ⟨(by with_reducible rfl), ?_⟩ | refine ⟨congrArg vi ?_, ?_⟩ | refine ⟨congrArg vb ?_, ?_⟩ | refine ⟨rfl, ?_⟩ | refine ⟨(by kernel_rfl : drawOK _ = true), ?_⟩ | refine Or.inl ?_ | refine ⟨⟨congrArg (T.int _) ?_, rfl⟩, ?_⟩ | refine ⟨⟨congrArg T.bool ?_, rfl⟩, ?_⟩ | refine ⟨⟨rfl, Nat.le_of_ble_eq_true rfl⟩, ?_⟩ | refine ⟨⟨rfl, rfl⟩, ?_⟩ | refine ⟨⟨rfl, (by decide)⟩, ?_⟩ | refine ⟨⟨rfl, ?_⟩, ?_⟩ | refine ⟨Or.inr rfl, ?_⟩ | refine ⟨Or.inl rfl, ?_⟩ | refine ⟨⟨⟨rfl, rfl, rfl⟩, ?_⟩, ?_⟩ | refine ⟨_, _, rfl, row_get _ _ arith, rfl, ?_⟩ | refine ⟨Or.inr (by repeat (first | exact trivial | refine ⟨rfl, ?_⟩)), ?_⟩ | refine ⟨(?_ : _ = ([] : List (List T))), ?_⟩ | refine ⟨_, c_sJoinWrites l h, ?_⟩ | fail))
  all_goals rfl
theorem c_RoundDatabase (l : List DDatabase) (h : bigL l) : FnAt Try.prog 14 [.one (L DDatabase.e l)] [.agg (DDatabase.r (joinDb l)), .one (.s (.bool (joinHas l)))] := by
  refine fn_of Try.func14 rfl (by kernel_rfl) rfl ?_
  all_goals repeat' (first | (with_reducible rfl) | ((conv => whnf); first | exact trivial | (with_reducible rfl) | exact (rfl : (0 : Int) = ((0 : Nat) : Int)) | exact w64_nat arith | refine bcase_T (by first | with_reducible rfl | decide) ?_ | refine bcase_F (by first | with_reducible rfl | decide) ?_ | refine bcase_dec (fun _ => ?_) (fun _ => ?_) | refine bcase_not ?_ | refine bcase_intro (fun _ => ?_) (fun _ => ?_) | refine ⟨(by with_reducible rfl), ?_⟩ | refine ⟨congrArg vi ?_, ?_⟩ | refine ⟨congrArg vb ?_, ?_⟩ | refine ⟨rfl, ?_⟩ | refine ⟨(by kernel_rfl : drawOK _ = true), ?_⟩ | refine Or.inl ?_ | refine ⟨⟨congrArg (T.int _) ?_, rfl⟩, ?_⟩ | refine ⟨⟨congrArg T.bool ?_, rfl⟩, ?_⟩ | refine ⟨⟨rfl, Nat.le_of_ble_eq_true rfl⟩, ?_⟩ | refine ⟨⟨rfl, rfl⟩, ?_⟩ | refine ⟨⟨rfl, (by decide)⟩, ?_⟩ | refine ⟨⟨rfl, ?_⟩, ?_⟩ | refine ⟨Or.inr rfl, ?_⟩ | refine ⟨Or.inl rfl, ?_⟩ | refine ⟨⟨⟨rfl, rfl, rfl⟩, ?_⟩, ?_⟩ | refine ⟨_, _, rfl, row_get _ _ arith, rfl, ?_⟩ | refine ⟨Or.inr (by repeat (first | exact trivial | refine ⟨rfl, ?_⟩)), ?_⟩ | refine ⟨(?_ : _ = ([] : List (List T))), ?_⟩ | refine ⟨_, c_JoinWrites l h, ?_⟩ | fail))
  all_goals rfl
end Go.Proofs.Ytpipfobdfcnghaa
