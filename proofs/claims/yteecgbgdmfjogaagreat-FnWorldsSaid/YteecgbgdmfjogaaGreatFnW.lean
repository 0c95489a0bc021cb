/-
  Contracts: exclusive or of bytes and of databases.
  Contracts: databases that are joined by exclusive or.
  Conditions: none.
-/
import Derived.Test.YteecgbgdmfjogaaGreatFnG
namespace Go.Proofs.YteecgbgdmfjogaaGreat
set_option maxHeartbeats 4000000
set_option maxRecDepth 20000
open Go.Vm Go.RowKit
attribute [local irreducible] FnAt MutAt InAt JAt CurAt FnE CurE RegAt

theorem partm_get {α : Type} {f : Nat → α → α} {b : List α} {i : Nat} (g : α → List T) (h : i < b.length) : ((Vm.part f b i).map g)[i]? = some (g b[i]) := by rw [List.getElem?_map, part_get h]; rfl
theorem partm_set {α : Type} {f : Nat → α → α} {b : List α} {i : Nat} (g : α → List T) (h : i < b.length) : ((Vm.part f b i).map g).set i (g (f i b[i])) = (Vm.part f b (i + 1)).map g := by rw [← part_set h, List.map_set]
theorem xor_part (a b : List UInt8) (h : b.length ≤ a.length) {i : Nat} (hi : i = b.length) : Vm.part (fun i x => x ^^^ (b[i]?.getD 0)) a i = xorB a b := by
  rw [hi, part_stop (fun j hj hn => by rw [List.getElem?_eq_none hn]; simp) h, xorB_mapIdx a b h]
attribute [local irreducible] xorB Vm.part
end Go.Proofs.YteecgbgdmfjogaaGreat

namespace Go.Proofs.YteecgbgdmfjogaaGreat
set_option maxHeartbeats 4000000
set_option maxRecDepth 20000
open Go.Vm Go.RowKit
attribute [local irreducible] FnAt MutAt InAt JAt CurAt FnE CurE RegAt

attribute [local irreducible] xorB
theorem zip_take {α β γ : Type} (f : α → β → γ) (a : List α) (b : List β) {i : Nat} (h1 : i < a.length) (h2 : i < b.length) : (List.zipWith f a b).take (i + 1) = (List.zipWith f a b).take i ++ [f a[i] b[i]] := by
  have h : i < (List.zipWith f a b).length := by rw [List.length_zipWith]; omega
  rw [List.take_succ_eq_append_getElem h]
  simp
def xorOk (a b : DDatabase) : Bool := dbOk a && dbOk b && decide ((a.Rows.length : Int) = (b.Rows.length : Int))
def xorDb (a b : DDatabase) : DDatabase := if xorOk a b then ⟨List.zipWith xorB a.Rows b.Rows⟩ else a
theorem xor_rows (a b : List (List UInt8)) (h : a.length = b.length) {i : Nat} (hi : i = b.length) : Vm.part (fun j x => xorB x (b[j]?.getD [])) a i = List.zipWith xorB a b := by
  rw [part_all (by omega)]
  apply List.ext_getElem?
  intro j
  rw [List.getElem?_mapIdx]
  by_cases hj : j < a.length
  · have hj2 : j < b.length := by omega
    have hz : j < (List.zipWith xorB a b).length := by rw [List.length_zipWith]; omega
    rw [List.getElem?_eq_getElem hj, List.getElem?_eq_getElem hz]
    simp [hj2]
  · have h1 : a[j]? = none := List.getElem?_eq_none (by omega)
    have h2 : (List.zipWith xorB a b)[j]? = none := List.getElem?_eq_none (by rw [List.length_zipWith]; omega)
    rw [h1, h2]
    rfl
theorem bigB_xor {a b : DDatabase} (ha : bigB a.Rows) (hb : bigB b.Rows) : bigB (xorDb a b).Rows := by
  unfold xorDb
  split
  · refine ⟨by simp only [List.length_zipWith]; have := ha.1; omega, fun x hx => ?_⟩
    obtain ⟨i, hi, rfl⟩ := List.getElem_of_mem hx
    simp only [List.length_zipWith] at hi
    simp only [List.getElem_zipWith, xorB_len]
    have h1 := ha.2 _ (List.getElem_mem (show i < a.Rows.length by omega))
    have h2 := hb.2 _ (List.getElem_mem (show i < b.Rows.length by omega))
    omega
  · exact ha
attribute [local irreducible] Vm.part
/-- Databases joined from the left; none where two do not fit. -/
def joinF (d : DDatabase) : List DDatabase → Option DDatabase
  | [] => some d
  | s :: r => if xorOk d s then joinF (xorDb d s) r else none
def joinW (l : List DDatabase) : Option DDatabase := match l with
  | [] => none
  | d :: r => if inR l.length 2 4 then joinF d r else none
def joinDb (l : List DDatabase) : DDatabase := (joinW l).getD ⟨[]⟩
def joinHas (l : List DDatabase) : Bool := (joinW l).isSome
theorem joinF_step {d : DDatabase} {l : List DDatabase} {i : Nat} (h : i < l.length) : joinF d (l.drop i) = if xorOk d l[i] then joinF (xorDb d l[i]) (l.drop (i + 1)) else none := by
  rw [List.drop_eq_getElem_cons h]
  rfl
theorem joinF_end {d : DDatabase} {l : List DDatabase} {i : Nat} (h : l.length ≤ i) : joinF d (l.drop i) = some d := by rw [List.drop_of_length_le h]; rfl
theorem joinW_T {l : List DDatabase} (h : inR l.length 2 4 = true) : joinW l = joinF (l[0]'(by have := inR_iff.1 h; omega)) (l.drop 1) := by
  cases l with
  | nil => simp [inR] at h
  | cons d r => simp only [joinW, h, if_true]; rfl
theorem joinW_F {l : List DDatabase} (h : inR l.length 2 4 = false) : joinW l = none := by
  cases l with
  | nil => rfl
  | cons d r => simp only [joinW, h]; rfl
theorem joinW_bad {l : List DDatabase} (h : inR l.length 2 4 = true) (hd : dbOk (l[0]'(by have := inR_iff.1 h; omega)) = false) : joinW l = none := by
  have h2 := inR_iff.1 h
  rw [joinW_T h, joinF_step (show 1 < l.length by omega)]
  have e : xorOk (l[0]'(by omega)) (l[1]'(by omega)) = false := by unfold xorOk; rw [hd]; rfl
  rw [e]
  rfl
def bigL (l : List DDatabase) : Prop := l.length ≤ 1099511627776 ∧ ∀ d ∈ l, bigB d.Rows
theorem c_isServerCount (a : Int) : FnAt Tryz.prog 22 [.one (I a)] [.one (.s (.bool (inR a 2 4)))] := by
  refine fn_of Tryz.func22 rfl (by kernel_rfl) rfl ?_
  all_goals repeat' (first | (with_reducible rfl) | ((conv => whnf); first | exact trivial | (with_reducible rfl) | exact (rfl : (0 : Int) = ((0 : Nat) : Int)) | exact w64_nat arith | refine bcase_T (by first | with_reducible rfl | decide) ?_ | refine bcase_F (by first | with_reducible rfl | decide) ?_ | refine bcase_dec (fun _ => ?_) (fun _ => ?_) | refine bcase_not ?_ | refine bcase_intro (fun _ => ?_) (fun _ => ?_) | refine ⟨(by with_reducible rfl), ?_⟩ | refine ⟨congrArg vi ?_, ?_⟩ | refine ⟨congrArg vb ?_, ?_⟩ | refine ⟨rfl, ?_⟩ | refine ⟨(by kernel_rfl : drawOK _ = true), ?_⟩ | refine Or.inl ?_ | refine ⟨⟨congrArg (T.int _) ?_, rfl⟩, ?_⟩ | refine ⟨⟨congrArg T.bool ?_, rfl⟩, ?_⟩ | refine ⟨⟨rfl, Nat.le_of_ble_eq_true rfl⟩, ?_⟩ | refine ⟨⟨rfl, rfl⟩, ?_⟩ | refine ⟨⟨rfl, (by decide)⟩, ?_⟩ | refine ⟨⟨rfl, ?_⟩, ?_⟩ | refine ⟨Or.inr rfl, ?_⟩ | refine ⟨Or.inl rfl, ?_⟩ | refine ⟨⟨⟨rfl, rfl, rfl⟩, ?_⟩, ?_⟩ | refine ⟨_, _, rfl, row_get _ _ arith, rfl, ?_⟩ | refine ⟨Or.inr (by repeat (first | exact trivial | refine ⟨rfl, ?_⟩)), ?_⟩ | refine ⟨(?_ : _ = ([] : List (List T))), ?_⟩ | refine ⟨_, c_InRange _ _ _, ?_⟩ | fail))
  all_goals rfl
theorem c_l7Count (a : Int) : FnAt Tryz.prog 41 [.one (I a)] [.one (.s (.bool (inR a 2 4)))] := by
  refine fn_of Tryz.func41 rfl (by kernel_rfl) rfl ?_
  all_goals repeat' (first | (with_reducible rfl) | ((conv => whnf); first | exact trivial | (with_reducible rfl) | exact (rfl : (0 : Int) = ((0 : Nat) : Int)) | exact w64_nat arith | refine bcase_T (by first | with_reducible rfl | decide) ?_ | refine bcase_F (by first | with_reducible rfl | decide) ?_ | refine bcase_dec (fun _ => ?_) (fun _ => ?_) | refine bcase_not ?_ | refine bcase_intro (fun _ => ?_) (fun _ => ?_) | refine ⟨(by with_reducible rfl), ?_⟩ | refine ⟨congrArg vi ?_, ?_⟩ | refine ⟨congrArg vb ?_, ?_⟩ | refine ⟨rfl, ?_⟩ | refine ⟨(by kernel_rfl : drawOK _ = true), ?_⟩ | refine Or.inl ?_ | refine ⟨⟨congrArg (T.int _) ?_, rfl⟩, ?_⟩ | refine ⟨⟨congrArg T.bool ?_, rfl⟩, ?_⟩ | refine ⟨⟨rfl, Nat.le_of_ble_eq_true rfl⟩, ?_⟩ | refine ⟨⟨rfl, rfl⟩, ?_⟩ | refine ⟨⟨rfl, (by decide)⟩, ?_⟩ | refine ⟨⟨rfl, ?_⟩, ?_⟩ | refine ⟨Or.inr rfl, ?_⟩ | refine ⟨Or.inl rfl, ?_⟩ | refine ⟨⟨⟨rfl, rfl, rfl⟩, ?_⟩, ?_⟩ | refine ⟨_, _, rfl, row_get _ _ arith, rfl, ?_⟩ | refine ⟨Or.inr (by repeat (first | exact trivial | refine ⟨rfl, ?_⟩)), ?_⟩ | refine ⟨(?_ : _ = ([] : List (List T))), ?_⟩ | refine ⟨_, c_l1In _ _ _, ?_⟩ | fail))
  all_goals rfl
theorem row_get' {α : Type} (f : α → List T) (xs : List α) {i j : Nat} (h : i < xs.length) (e : j = i) : (xs.map f)[j]? = some (f xs[i]) := by subst e; exact row_get f xs h
/-- The state of a join: what has been joined, the rest. -/
structure JoinSt where
  i : Nat
  d : DDatabase
end Go.Proofs.YteecgbgdmfjogaaGreat
