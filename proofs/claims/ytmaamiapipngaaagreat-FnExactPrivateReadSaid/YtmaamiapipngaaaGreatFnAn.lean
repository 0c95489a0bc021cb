/-
  Contracts: selections, answers to queries, signed answers.
  Conditions: none.
-/
import Derived.Test.YtmaamiapipngaaaGreatFnX
import Derived.Test.YtmaamiapipngaaaGreatFnD
import Derived.Test.YtmaamiapipngaaaGreatFnAu
import Derived.Test.YtmaamiapipngaaaGreatFnS2
import Derived.Test.YtmaamiapipngaaaGreatFnGw
namespace Go.Proofs.YtmaamiapipngaaaGreat
set_option maxHeartbeats 4000000
set_option maxRecDepth 20000
open Go.Vm Go.RowKit
attribute [local irreducible] FnAt MutAt InAt JAt CurAt FnE CurE RegAt

attribute [local irreducible] xorB
theorem c_IndexFuncI (xs : List Int) (g : FuncId) (caps : List T) (p : Int → Bool) (hx : xs.length ≤ 1099511627776) (hg : ∀ b : Int, b ∈ xs → FnAt Tryz.prog g (.one (I b) :: caps.map V.one) [.one (.s (.bool (p b)))]) :
    FnAt Tryz.prog 152 [.one (L eI xs), .one (.fn g caps)] [.one (.s (I (idxF p xs 0)))] := by
  refine fn_of Tryz.func152 rfl (by kernel_rfl) rfl ?_
  all_goals repeat' (first | (with_reducible rfl) | ((conv => whnf); first | exact trivial | (with_reducible rfl) | exact (rfl : (0 : Int) = ((0 : Nat) : Int)) | exact w64_nat arith | refine bcase_T (by first | with_reducible rfl | decide) ?_ | refine bcase_F (by first | with_reducible rfl | decide) ?_ | refine bcase_dec (fun _ => ?_) (fun _ => ?_) | refine bcase_not ?_ | refine bcase_intro (fun _ => ?_) (fun _ => ?_) | refine ⟨(by with_reducible rfl), ?_⟩ | refine ⟨congrArg vi ?_, ?_⟩ | refine ⟨congrArg vb ?_, ?_⟩ | refine ⟨rfl, ?_⟩ | refine ⟨(by kernel_rfl : drawOK _ = true), ?_⟩ | refine Or.inl ?_ | refine ⟨⟨congrArg (T.int _) ?_, rfl⟩, ?_⟩ | refine ⟨⟨congrArg T.bool ?_, rfl⟩, ?_⟩ | refine ⟨⟨rfl, Nat.le_of_ble_eq_true rfl⟩, ?_⟩ | refine ⟨⟨rfl, rfl⟩, ?_⟩ | refine ⟨⟨rfl, (by decide)⟩, ?_⟩ | refine ⟨⟨rfl, ?_⟩, ?_⟩ | refine ⟨Or.inr rfl, ?_⟩ | refine ⟨Or.inl rfl, ?_⟩ | refine ⟨⟨⟨rfl, rfl, rfl⟩, ?_⟩, ?_⟩ | refine ⟨_, _, rfl, row_get _ _ arith, rfl, ?_⟩ | refine ⟨Or.inr (by repeat (first | exact trivial | refine ⟨rfl, ?_⟩)), ?_⟩ | refine ⟨(?_ : _ = ([] : List (List T))), ?_⟩ | fail))
  conv => whnf
  refine ⟨Nat, fun i => i ≤ xs.length ∧ idxF p xs 0 = idxF p (xs.drop i) i, fun i => ⟨[(0, vl (xs.map eI)), (1, .c (.t (.fn g caps))), (7, vi xs.length), (8, vi i)], [], 0⟩, fun i => xs.length - i, 0, ⟨Nat.zero_le _, rfl⟩, ⟨[], rfl, rfl, rfl, ?_, ?_⟩, fun i hi => ?_⟩
  all_goals repeat' (first | (with_reducible rfl) | ((conv => whnf); first | exact trivial | (with_reducible rfl) | exact (rfl : (0 : Int) = ((0 : Nat) : Int)) | exact w64_nat arith | refine bcase_T (by first | with_reducible rfl | decide) ?_ | refine bcase_F (by first | with_reducible rfl | decide) ?_ | refine bcase_dec (fun _ => ?_) (fun _ => ?_) | refine bcase_not ?_ | refine bcase_intro (fun _ => ?_) (fun _ => ?_) | refine ⟨(by with_reducible rfl), ?_⟩ | refine ⟨congrArg vi ?_, ?_⟩ | refine ⟨congrArg vb ?_, ?_⟩ | refine ⟨rfl, ?_⟩ | refine ⟨(by kernel_rfl : drawOK _ = true), ?_⟩ | refine Or.inl ?_ | refine ⟨⟨congrArg (T.int _) ?_, rfl⟩, ?_⟩ | refine ⟨⟨congrArg T.bool ?_, rfl⟩, ?_⟩ | refine ⟨⟨rfl, Nat.le_of_ble_eq_true rfl⟩, ?_⟩ | refine ⟨⟨rfl, rfl⟩, ?_⟩ | refine ⟨⟨rfl, (by decide)⟩, ?_⟩ | refine ⟨⟨rfl, ?_⟩, ?_⟩ | refine ⟨Or.inr rfl, ?_⟩ | refine ⟨Or.inl rfl, ?_⟩ | refine ⟨⟨⟨rfl, rfl, rfl⟩, ?_⟩, ?_⟩ | refine ⟨_, _, rfl, row_get _ _ arith, rfl, ?_⟩ | refine ⟨Or.inr (by repeat (first | exact trivial | refine ⟨rfl, ?_⟩)), ?_⟩ | refine ⟨(?_ : _ = ([] : List (List T))), ?_⟩ | refine ⟨_, hg _ (List.getElem_mem _), ?_⟩ | refine ⟨i + 1, ⟨⟨arith, ?_⟩, arith⟩, ⟨[], rfl, rfl, rfl, ?_, ?_⟩⟩ | fail))
  all_goals first
    | (rw [List.length_map]; done)
    | (rw [hi.2, idxF_T (by omega) (by assumption)]; done)
    | (rw [hi.2, idxF_F (by omega) (by assumption)]; rfl)
    | (rw [hi.2, idxF_end (by omega)]; done)
theorem c_ContainsFuncI (xs : List Int) (g : FuncId) (caps : List T) (p : Int → Bool) (hx : xs.length ≤ 1099511627776) (hg : ∀ b : Int, b ∈ xs → FnAt Tryz.prog g (.one (I b) :: caps.map V.one) [.one (.s (.bool (p b)))]) :
    FnAt Tryz.prog 132 [.one (L eI xs), .one (.fn g caps)] [.one (.s (.bool (xs.any p)))] := by
  refine fn_of Tryz.func132 rfl (by kernel_rfl) rfl ?_
  all_goals repeat' (first | (with_reducible rfl) | ((conv => whnf); first | exact trivial | (with_reducible rfl) | exact (rfl : (0 : Int) = ((0 : Nat) : Int)) | exact w64_nat arith | refine bcase_T (by first | with_reducible rfl | decide) ?_ | refine bcase_F (by first | with_reducible rfl | decide) ?_ | refine bcase_dec (fun _ => ?_) (fun _ => ?_) | refine bcase_not ?_ | refine bcase_intro (fun _ => ?_) (fun _ => ?_) | refine ⟨(by with_reducible rfl), ?_⟩ | refine ⟨congrArg vi ?_, ?_⟩ | refine ⟨congrArg vb ?_, ?_⟩ | refine ⟨rfl, ?_⟩ | refine ⟨(by kernel_rfl : drawOK _ = true), ?_⟩ | refine Or.inl ?_ | refine ⟨⟨congrArg (T.int _) ?_, rfl⟩, ?_⟩ | refine ⟨⟨congrArg T.bool ?_, rfl⟩, ?_⟩ | refine ⟨⟨rfl, Nat.le_of_ble_eq_true rfl⟩, ?_⟩ | refine ⟨⟨rfl, rfl⟩, ?_⟩ | refine ⟨⟨rfl, (by decide)⟩, ?_⟩ | refine ⟨⟨rfl, ?_⟩, ?_⟩ | refine ⟨Or.inr rfl, ?_⟩ | refine ⟨Or.inl rfl, ?_⟩ | refine ⟨⟨⟨rfl, rfl, rfl⟩, ?_⟩, ?_⟩ | refine ⟨_, _, rfl, row_get _ _ arith, rfl, ?_⟩ | refine ⟨Or.inr (by repeat (first | exact trivial | refine ⟨rfl, ?_⟩)), ?_⟩ | refine ⟨(?_ : _ = ([] : List (List T))), ?_⟩ | refine ⟨_, c_IndexFuncI xs g caps p hx hg, ?_⟩ | fail))
  all_goals exact idxF_any xs (Int.le_refl 0)
def selBad (x : Int) : Bool := !inR x 0 1
def selOk (v : List Int) (n : Int) : Bool := inR n 0 64 && decide ((v.length : Int) = n) && !(v.any selBad)
theorem selOk_eq (v : List Int) (n : Int) : selOk v n = ((decide ((v.length : Int) = n) && decide (n ≤ 64)) && !(v.any selBad)) := by
  unfold selOk
  generalize v.any selBad = u
  by_cases h : (v.length : Int) = n
  · subst h
    have e : inR (v.length : Int) 0 64 = decide ((v.length : Int) ≤ 64) := by
      rw [Bool.eq_iff_iff, inR_iff, decide_eq_true_eq]; omega
    rw [e]
    simp
  · simp [h]
def selX (rows : List (List UInt8)) (v : List Int) : Nat → List UInt8
  | 0 => []
  | i + 1 => if v[i]? = some 1 then xorB (selX rows v i) (rows[i]?.getD []) else selX rows v i
theorem selX_T {rows : List (List UInt8)} {v : List Int} {i : Nat} (h1 : i < rows.length) (h2 : i < v.length) (h : v[i] = 1) : xorB (selX rows v i) rows[i] = selX rows v (i + 1) := by
  simp only [selX, List.getElem?_eq_getElem h2, h, if_true, List.getElem?_eq_getElem h1, Option.getD_some]
theorem selX_F {rows : List (List UInt8)} {v : List Int} {i : Nat} (h2 : i < v.length) (h : ¬ v[i] = 1) : selX rows v i = selX rows v (i + 1) := by
  simp only [selX, List.getElem?_eq_getElem h2, Option.some.injEq, if_neg h]
theorem selX_N {rows : List (List UInt8)} {v : List Int} {i : Nat} (h2 : v.length ≤ i) : selX rows v i = selX rows v (i + 1) := by
  simp only [selX, List.getElem?_eq_none h2]; rfl
theorem selX_stop {rows : List (List UInt8)} {v : List Int} : ∀ {i k : Nat}, v.length ≤ i → selX rows v i = selX rows v (i + k)
  | i, 0, _ => rfl
  | i, k + 1, h => by rw [selX_stop (k := k) h, ← Nat.add_assoc]; exact selX_N (by omega)
theorem selX_len {rows : List (List UInt8)} {v : List Int} {B : Nat} (h : ∀ x ∈ rows, x.length ≤ B) : ∀ i, (selX rows v i).length ≤ B
  | 0 => Nat.zero_le _
  | i + 1 => by
    have ih := selX_len h (v := v) i
    simp only [selX]
    split
    · rw [xorB_len]
      cases e : rows[i]? with
      | none => simp; exact ih
      | some x => have := h x (List.mem_of_getElem? e); simp; omega
    · exact ih
theorem c_selBad (b : Int) : FnAt Tryz.prog 133 [.one (I b)] [.one (.s (.bool (selBad b)))] := by
  refine fn_of Tryz.func133 rfl (by kernel_rfl) rfl ?_
  all_goals repeat' (first | (with_reducible rfl) | ((conv => whnf); first | exact trivial | (with_reducible rfl) | exact (rfl : (0 : Int) = ((0 : Nat) : Int)) | exact w64_nat arith | refine bcase_T (by first | with_reducible rfl | decide) ?_ | refine bcase_F (by first | with_reducible rfl | decide) ?_ | refine bcase_dec (fun _ => ?_) (fun _ => ?_) | refine bcase_not ?_ | refine bcase_intro (fun _ => ?_) (fun _ => ?_) | refine ⟨(by with_reducible rfl), ?_⟩ | refine ⟨congrArg vi ?_, ?_⟩ | refine ⟨congrArg vb ?_, ?_⟩ | refine ⟨rfl, ?_⟩ | refine ⟨(by kernel_rfl : drawOK _ = true), ?_⟩ | refine Or.inl ?_ | refine ⟨⟨congrArg (T.int _) ?_, rfl⟩, ?_⟩ | refine ⟨⟨congrArg T.bool ?_, rfl⟩, ?_⟩ | refine ⟨⟨rfl, Nat.le_of_ble_eq_true rfl⟩, ?_⟩ | refine ⟨⟨rfl, rfl⟩, ?_⟩ | refine ⟨⟨rfl, (by decide)⟩, ?_⟩ | refine ⟨⟨rfl, ?_⟩, ?_⟩ | refine ⟨Or.inr rfl, ?_⟩ | refine ⟨Or.inl rfl, ?_⟩ | refine ⟨⟨⟨rfl, rfl, rfl⟩, ?_⟩, ?_⟩ | refine ⟨_, _, rfl, row_get _ _ arith, rfl, ?_⟩ | refine ⟨Or.inr (by repeat (first | exact trivial | refine ⟨rfl, ?_⟩)), ?_⟩ | refine ⟨(?_ : _ = ([] : List (List T))), ?_⟩ | refine ⟨_, c_InRange _ _ _, ?_⟩ | fail))
  all_goals rfl
theorem c_IsSelection (v : List Int) (n : Int) (h : v.length ≤ 1099511627776) : FnAt Tryz.prog 102 [.one (L eI v), .one (I n)] [.one (.s (.bool (selOk v n)))] := by
  have hm := lenm eI v
  refine fn_of Tryz.func102 rfl (by kernel_rfl) rfl ?_
  all_goals repeat' (first | (with_reducible rfl) | ((conv => whnf); first | exact trivial | (with_reducible rfl) | exact (rfl : (0 : Int) = ((0 : Nat) : Int)) | exact w64_nat arith | refine bcase_T (by first | with_reducible rfl | decide) ?_ | refine bcase_F (by first | with_reducible rfl | decide) ?_ | refine bcase_dec (fun _ => ?_) (fun _ => ?_) | refine bcase_not ?_ | refine bcase_intro (fun _ => ?_) (fun _ => ?_) | refine ⟨(by with_reducible rfl), ?_⟩ | refine ⟨congrArg vi ?_, ?_⟩ | refine ⟨congrArg vb ?_, ?_⟩ | refine ⟨rfl, ?_⟩ | refine ⟨(by kernel_rfl : drawOK _ = true), ?_⟩ | refine Or.inl ?_ | refine ⟨⟨congrArg (T.int _) ?_, rfl⟩, ?_⟩ | refine ⟨⟨congrArg T.bool ?_, rfl⟩, ?_⟩ | refine ⟨⟨rfl, Nat.le_of_ble_eq_true rfl⟩, ?_⟩ | refine ⟨⟨rfl, rfl⟩, ?_⟩ | refine ⟨⟨rfl, (by decide)⟩, ?_⟩ | refine ⟨⟨rfl, ?_⟩, ?_⟩ | refine ⟨Or.inr rfl, ?_⟩ | refine ⟨Or.inl rfl, ?_⟩ | refine ⟨⟨⟨rfl, rfl, rfl⟩, ?_⟩, ?_⟩ | refine ⟨_, _, rfl, row_get _ _ arith, rfl, ?_⟩ | refine ⟨Or.inr (by repeat (first | exact trivial | refine ⟨rfl, ?_⟩)), ?_⟩ | refine ⟨(?_ : _ = ([] : List (List T))), ?_⟩ | refine ⟨_, c_InRange n 0 64, ?_⟩ | refine ⟨_, c_ContainsFuncI v _ [] selBad h (fun b _ => c_selBad b), ?_⟩ | fail))
  all_goals (simp only [selOk]; generalize v.any selBad = u at *; simp_all)
theorem c_sIsSelection (v : List Int) (n : Int) (h : v.length ≤ 1099511627776) : FnAt Tryz.prog 121 [.one (L eI v), .one (I n)] [.one (.s (.bool (selOk v n)))] := by
  have hm := lenm eI v
  rw [selOk_eq]
  refine fn_of Tryz.func121 rfl (by kernel_rfl) rfl ?_
  all_goals repeat' (first | (with_reducible rfl) | ((conv => whnf); first | exact trivial | (with_reducible rfl) | exact (rfl : (0 : Int) = ((0 : Nat) : Int)) | exact w64_nat arith | refine bcase_T (by first | with_reducible rfl | decide) ?_ | refine bcase_F (by first | with_reducible rfl | decide) ?_ | refine bcase_dec (fun _ => ?_) (fun _ => ?_) | refine bcase_not ?_ | refine bcase_intro (fun _ => ?_) (fun _ => ?_) | refine ⟨(by with_reducible rfl), ?_⟩ | refine ⟨congrArg vi ?_, ?_⟩ | refine ⟨congrArg vb ?_, ?_⟩ | refine ⟨rfl, ?_⟩ | refine ⟨(by kernel_rfl : drawOK _ = true), ?_⟩ | refine Or.inl ?_ | refine ⟨⟨congrArg (T.int _) ?_, rfl⟩, ?_⟩ | refine ⟨⟨congrArg T.bool ?_, rfl⟩, ?_⟩ | refine ⟨⟨rfl, Nat.le_of_ble_eq_true rfl⟩, ?_⟩ | refine ⟨⟨rfl, rfl⟩, ?_⟩ | refine ⟨⟨rfl, (by decide)⟩, ?_⟩ | refine ⟨⟨rfl, ?_⟩, ?_⟩ | refine ⟨Or.inr rfl, ?_⟩ | refine ⟨Or.inl rfl, ?_⟩ | refine ⟨⟨⟨rfl, rfl, rfl⟩, ?_⟩, ?_⟩ | refine ⟨_, _, rfl, row_get _ _ arith, rfl, ?_⟩ | refine ⟨Or.inr (by repeat (first | exact trivial | refine ⟨rfl, ?_⟩)), ?_⟩ | refine ⟨(?_ : _ = ([] : List (List T))), ?_⟩ | fail))
  conv => whnf
  refine ⟨Nat, fun i => i ≤ v.length ∧ v.any selBad = (v.drop i).any selBad, fun i => ⟨[(0, vl (v.map eI)), (1, vi n), (5, vi i)], [], 0⟩, fun i => v.length - i, 0, ⟨Nat.zero_le _, rfl⟩, ⟨[], rfl, rfl, rfl, ?_, ?_⟩, fun i hi => ?_⟩
  all_goals repeat' (first | (with_reducible rfl) | ((conv => whnf); first | exact trivial | (with_reducible rfl) | exact (rfl : (0 : Int) = ((0 : Nat) : Int)) | exact w64_nat arith | refine bcase_T (by first | with_reducible rfl | decide) ?_ | refine bcase_F (by first | with_reducible rfl | decide) ?_ | refine bcase_dec (fun _ => ?_) (fun _ => ?_) | refine bcase_not ?_ | refine bcase_intro (fun _ => ?_) (fun _ => ?_) | refine ⟨(by with_reducible rfl), ?_⟩ | refine ⟨congrArg vi ?_, ?_⟩ | refine ⟨congrArg vb ?_, ?_⟩ | refine ⟨rfl, ?_⟩ | refine ⟨(by kernel_rfl : drawOK _ = true), ?_⟩ | refine Or.inl ?_ | refine ⟨⟨congrArg (T.int _) ?_, rfl⟩, ?_⟩ | refine ⟨⟨congrArg T.bool ?_, rfl⟩, ?_⟩ | refine ⟨⟨rfl, Nat.le_of_ble_eq_true rfl⟩, ?_⟩ | refine ⟨⟨rfl, rfl⟩, ?_⟩ | refine ⟨⟨rfl, (by decide)⟩, ?_⟩ | refine ⟨⟨rfl, ?_⟩, ?_⟩ | refine ⟨Or.inr rfl, ?_⟩ | refine ⟨Or.inl rfl, ?_⟩ | refine ⟨⟨⟨rfl, rfl, rfl⟩, ?_⟩, ?_⟩ | refine ⟨_, _, rfl, row_get _ _ arith, rfl, ?_⟩ | refine ⟨Or.inr (by repeat (first | exact trivial | refine ⟨rfl, ?_⟩)), ?_⟩ | refine ⟨(?_ : _ = ([] : List (List T))), ?_⟩ | refine ⟨_, c_l1In _ _ _, ?_⟩ | refine ⟨i, _, rfl, row_get _ _ arith, rfl, ?_⟩ | refine ⟨i + 1, ⟨⟨arith, ?_⟩, arith⟩, ⟨[], rfl, rfl, rfl, ?_, ?_⟩⟩ | fail))
  all_goals first
    | (rw [List.length_map]; done)
    | (have h0 : i < v.length := lt_map ‹(i : Int) < ((v.map eI).length : Int)›; have h1 : selBad v[i] = true := (by unfold selBad; simp_all); rw [hi.2, any_T h0 h1]; simp; done)
    | (have h0 : i < v.length := lt_map ‹(i : Int) < ((v.map eI).length : Int)›; have h1 : selBad v[i] = false := (by unfold selBad; simp_all); rw [hi.2, any_F h0 h1]; done)
    | (rw [hi.2, any_end (ge_map (by assumption))]; simp_all; done)
    | skip
theorem c_SelectXor (rows : List (List UInt8)) (v : List Int) (h : bigB rows) (_ : v.length ≤ 1099511627776) : FnAt Tryz.prog 137 [.one (L (eL eU) rows), .one (L eI v)] [.one (.l 1 ((selX rows v rows.length).map eU))] := by
  have hl := h.1
  have hb := fun i => selX_len (v := v) h.2 i
  refine fn_of Tryz.func137 rfl (by kernel_rfl) rfl ?_
  all_goals repeat' (first | (with_reducible rfl) | ((conv => whnf); first | exact trivial | (with_reducible rfl) | exact (rfl : (0 : Int) = ((0 : Nat) : Int)) | exact w64_nat arith | refine bcase_T (by first | with_reducible rfl | decide) ?_ | refine bcase_F (by first | with_reducible rfl | decide) ?_ | refine bcase_dec (fun _ => ?_) (fun _ => ?_) | refine bcase_not ?_ | refine bcase_intro (fun _ => ?_) (fun _ => ?_) | refine ⟨(by with_reducible rfl), ?_⟩ | refine ⟨congrArg vi ?_, ?_⟩ | refine ⟨congrArg vb ?_, ?_⟩ | refine ⟨rfl, ?_⟩ | refine ⟨(by kernel_rfl : drawOK _ = true), ?_⟩ | refine Or.inl ?_ | refine ⟨⟨congrArg (T.int _) ?_, rfl⟩, ?_⟩ | refine ⟨⟨congrArg T.bool ?_, rfl⟩, ?_⟩ | refine ⟨⟨rfl, Nat.le_of_ble_eq_true rfl⟩, ?_⟩ | refine ⟨⟨rfl, rfl⟩, ?_⟩ | refine ⟨⟨rfl, (by decide)⟩, ?_⟩ | refine ⟨⟨rfl, ?_⟩, ?_⟩ | refine ⟨Or.inr rfl, ?_⟩ | refine ⟨Or.inl rfl, ?_⟩ | refine ⟨⟨⟨rfl, rfl, rfl⟩, ?_⟩, ?_⟩ | refine ⟨_, _, rfl, row_get _ _ arith, rfl, ?_⟩ | refine ⟨Or.inr (by repeat (first | exact trivial | refine ⟨rfl, ?_⟩)), ?_⟩ | refine ⟨(?_ : _ = ([] : List (List T))), ?_⟩ | fail))
  conv => whnf
  refine ⟨Nat, fun i => i ≤ rows.length, fun i => ⟨[(1, vl (v.map eI)), (5, .c (.ref 0)), (9, vl (rows.map (eL eU))), (10, vi rows.length), (11, vi i)], [(0, .row true true 1 ((selX rows v i).map eU))], 1⟩, fun i => rows.length - i, 0, Nat.zero_le _, sub_at [(0, 5)] rfl rfl rfl ?_ ?_, fun i (hi : i ≤ rows.length) => ?_⟩
  all_goals repeat' (first | (with_reducible rfl) | ((conv => whnf); first | exact trivial | (with_reducible rfl) | exact (rfl : (0 : Int) = ((0 : Nat) : Int)) | exact w64_nat arith | refine bcase_T (by first | with_reducible rfl | decide) ?_ | refine bcase_F (by first | with_reducible rfl | decide) ?_ | refine bcase_dec (fun _ => ?_) (fun _ => ?_) | refine bcase_not ?_ | refine bcase_intro (fun _ => ?_) (fun _ => ?_) | refine ⟨(by with_reducible rfl), ?_⟩ | refine ⟨congrArg vi ?_, ?_⟩ | refine ⟨congrArg vb ?_, ?_⟩ | refine ⟨rfl, ?_⟩ | refine ⟨(by kernel_rfl : drawOK _ = true), ?_⟩ | refine Or.inl ?_ | refine ⟨⟨congrArg (T.int _) ?_, rfl⟩, ?_⟩ | refine ⟨⟨congrArg T.bool ?_, rfl⟩, ?_⟩ | refine ⟨⟨rfl, Nat.le_of_ble_eq_true rfl⟩, ?_⟩ | refine ⟨⟨rfl, rfl⟩, ?_⟩ | refine ⟨⟨rfl, (by decide)⟩, ?_⟩ | refine ⟨⟨rfl, ?_⟩, ?_⟩ | refine ⟨Or.inr rfl, ?_⟩ | refine ⟨Or.inl rfl, ?_⟩ | refine ⟨⟨⟨rfl, rfl, rfl⟩, ?_⟩, ?_⟩ | refine ⟨_, _, rfl, row_get _ _ arith, rfl, ?_⟩ | refine ⟨Or.inr (by repeat (first | exact trivial | refine ⟨rfl, ?_⟩)), ?_⟩ | refine ⟨(?_ : _ = ([] : List (List T))), ?_⟩ | refine ⟨_, c_XorBytes (selX rows v i) (rows[i]'arith) (hb i) (h.2 _ (List.getElem_mem _)), ?_⟩ | refine ⟨i, _, rfl, row_get _ _ arith, rfl, ?_⟩ | refine ⟨i + 1, ⟨arith, arith⟩, sub_at [(0, 5)] rfl rfl rfl ?_ ?_⟩ | fail))
  all_goals first
    | (rw [List.length_map]; done)
    | rfl
    | (rw [selX_T (by omega) arith (by assumption)]; done)
    | (rw [selX_F arith (by assumption)]; done)
    | (rw [selX_N arith]; done)
    | (rw [show i = rows.length by omega]; done)
    | skip
theorem c_sSelectXor (rows : List (List UInt8)) (v : List Int) (h : bigB rows) (_ : v.length ≤ 1099511627776) : FnAt Tryz.prog 148 [.one (L (eL eU) rows), .one (L eI v)] [.one (.l 1 ((selX rows v rows.length).map eU))] := by
  have hl := h.1
  have hb := fun i => selX_len (v := v) h.2 i
  have hm := lenm eI v
  refine fn_of Tryz.func148 rfl (by kernel_rfl) rfl ?_
  all_goals repeat' (first | (with_reducible rfl) | ((conv => whnf); first | exact trivial | (with_reducible rfl) | exact (rfl : (0 : Int) = ((0 : Nat) : Int)) | exact w64_nat arith | refine bcase_T (by first | with_reducible rfl | decide) ?_ | refine bcase_F (by first | with_reducible rfl | decide) ?_ | refine bcase_dec (fun _ => ?_) (fun _ => ?_) | refine bcase_not ?_ | refine bcase_intro (fun _ => ?_) (fun _ => ?_) | refine ⟨(by with_reducible rfl), ?_⟩ | refine ⟨congrArg vi ?_, ?_⟩ | refine ⟨congrArg vb ?_, ?_⟩ | refine ⟨rfl, ?_⟩ | refine ⟨(by kernel_rfl : drawOK _ = true), ?_⟩ | refine Or.inl ?_ | refine ⟨⟨congrArg (T.int _) ?_, rfl⟩, ?_⟩ | refine ⟨⟨congrArg T.bool ?_, rfl⟩, ?_⟩ | refine ⟨⟨rfl, Nat.le_of_ble_eq_true rfl⟩, ?_⟩ | refine ⟨⟨rfl, rfl⟩, ?_⟩ | refine ⟨⟨rfl, (by decide)⟩, ?_⟩ | refine ⟨⟨rfl, ?_⟩, ?_⟩ | refine ⟨Or.inr rfl, ?_⟩ | refine ⟨Or.inl rfl, ?_⟩ | refine ⟨⟨⟨rfl, rfl, rfl⟩, ?_⟩, ?_⟩ | refine ⟨_, _, rfl, row_get _ _ arith, rfl, ?_⟩ | refine ⟨Or.inr (by repeat (first | exact trivial | refine ⟨rfl, ?_⟩)), ?_⟩ | refine ⟨(?_ : _ = ([] : List (List T))), ?_⟩ | fail))
  conv => whnf
  refine ⟨Nat, fun i => i ≤ rows.length, fun i => ⟨[(0, vl (rows.map (eL eU))), (1, vl (v.map eI)), (5, .c (.ref 0)), (6, vi i)], [(0, .row true true 1 ((selX rows v i).map eU))], 1⟩, fun i => rows.length - i, 0, Nat.zero_le _, sub_at [(0, 5)] rfl rfl rfl ?_ ?_, fun i (hi : i ≤ rows.length) => ?_⟩
  all_goals repeat' (first | (with_reducible rfl) | ((conv => whnf); first | exact trivial | (with_reducible rfl) | exact (rfl : (0 : Int) = ((0 : Nat) : Int)) | exact w64_nat arith | refine bcase_T (by first | with_reducible rfl | decide) ?_ | refine bcase_F (by first | with_reducible rfl | decide) ?_ | refine bcase_dec (fun _ => ?_) (fun _ => ?_) | refine bcase_not ?_ | refine bcase_intro (fun _ => ?_) (fun _ => ?_) | refine ⟨(by with_reducible rfl), ?_⟩ | refine ⟨congrArg vi ?_, ?_⟩ | refine ⟨congrArg vb ?_, ?_⟩ | refine ⟨rfl, ?_⟩ | refine ⟨(by kernel_rfl : drawOK _ = true), ?_⟩ | refine Or.inl ?_ | refine ⟨⟨congrArg (T.int _) ?_, rfl⟩, ?_⟩ | refine ⟨⟨congrArg T.bool ?_, rfl⟩, ?_⟩ | refine ⟨⟨rfl, Nat.le_of_ble_eq_true rfl⟩, ?_⟩ | refine ⟨⟨rfl, rfl⟩, ?_⟩ | refine ⟨⟨rfl, (by decide)⟩, ?_⟩ | refine ⟨⟨rfl, ?_⟩, ?_⟩ | refine ⟨Or.inr rfl, ?_⟩ | refine ⟨Or.inl rfl, ?_⟩ | refine ⟨⟨⟨rfl, rfl, rfl⟩, ?_⟩, ?_⟩ | refine ⟨_, _, rfl, row_get _ _ arith, rfl, ?_⟩ | refine ⟨Or.inr (by repeat (first | exact trivial | refine ⟨rfl, ?_⟩)), ?_⟩ | refine ⟨(?_ : _ = ([] : List (List T))), ?_⟩ | refine ⟨_, c_sXorBytes (selX rows v i) (rows[i]'arith) (hb i) (h.2 _ (List.getElem_mem _)), ?_⟩ | refine ⟨i, _, rfl, row_get _ _ arith, rfl, ?_⟩ | refine ⟨i + 1, ⟨arith, arith⟩, sub_at [(0, 5)] rfl rfl rfl ?_ ?_⟩ | fail))
  all_goals first
    | (rw [List.length_map]; done)
    | rfl
    | (rw [selX_T arith arith (by assumption)]; done)
    | (rw [selX_F arith (by assumption)]; done)
    | (rw [show rows.length = i from (by have := ge_map (by assumption); omega)]; done)
    | (rw [selX_stop (i := i) (k := rows.length - i) (ge_map (by assumption)), show i + (rows.length - i) = rows.length by omega]; done)
    | skip
attribute [local irreducible] selX selOk dbOk
def ansQ (d : DDatabase) (v : List Int) : List UInt8 := if dbOk d && selOk v (d.Rows.length : Int) then xorB zero24 (selX d.Rows v d.Rows.length) else []
def ansOk (d : DDatabase) (v : List Int) : Bool := dbOk d && selOk v (d.Rows.length : Int)
theorem zero24_E : List.replicate 24 [U8 0] = zero24.map eU := by unfold zero24; rfl
theorem zero24_len : zero24.length = 24 := by unfold zero24; rw [List.length_replicate]
theorem ansQ_nil (d : DDatabase) (v : List Int) : (ansQ d v).length = 0 ↔ ansOk d v = false := by
  unfold ansQ ansOk
  cases e : (dbOk d && selOk v (d.Rows.length : Int)) with
  | false => simp
  | true => simp only [if_true]; rw [xorB_len, zero24_len]; simp <;> omega
theorem ansQ_len {d : DDatabase} {v : List Int} (h : bigB d.Rows) : (ansQ d v).length ≤ 1099511627776 := by
  unfold ansQ
  split
  · rw [xorB_len, zero24_len]
    have := selX_len (v := v) h.2 d.Rows.length
    omega
  · simp
theorem c_AnswerQuery (d : DDatabase) (v : List Int) (h : bigB d.Rows) (hv : v.length ≤ 1099511627776) : FnAt Tryz.prog 106 [.agg (DDatabase.e d), .one (L eI v)] [.one (.l 1 ((ansQ d v).map eU))] := by
  have hm := lenm (eL eU) d.Rows
  have hb := selX_len (v := v) h.2 d.Rows.length
  refine fn_of Tryz.func106 rfl (by kernel_rfl) rfl ?_
  all_goals repeat' (first | (with_reducible rfl) | ((conv => whnf); first | exact trivial | (with_reducible rfl) | exact (rfl : (0 : Int) = ((0 : Nat) : Int)) | exact w64_nat arith | refine bcase_T (by first | with_reducible rfl | decide) ?_ | refine bcase_F (by first | with_reducible rfl | decide) ?_ | refine bcase_dec (fun _ => ?_) (fun _ => ?_) | refine bcase_not ?_ | refine bcase_intro (fun _ => ?_) (fun _ => ?_) | refine ⟨(by with_reducible rfl), ?_⟩ | refine ⟨congrArg vi ?_, ?_⟩ | refine ⟨congrArg vb ?_, ?_⟩ | refine ⟨rfl, ?_⟩ | refine ⟨(by kernel_rfl : drawOK _ = true), ?_⟩ | refine Or.inl ?_ | refine ⟨⟨congrArg (T.int _) ?_, rfl⟩, ?_⟩ | refine ⟨⟨congrArg T.bool ?_, rfl⟩, ?_⟩ | refine ⟨⟨rfl, Nat.le_of_ble_eq_true rfl⟩, ?_⟩ | refine ⟨⟨rfl, rfl⟩, ?_⟩ | refine ⟨⟨rfl, (by decide)⟩, ?_⟩ | refine ⟨⟨rfl, ?_⟩, ?_⟩ | refine ⟨Or.inr rfl, ?_⟩ | refine ⟨Or.inl rfl, ?_⟩ | refine ⟨⟨⟨rfl, rfl, rfl⟩, ?_⟩, ?_⟩ | refine ⟨_, _, rfl, row_get _ _ arith, rfl, ?_⟩ | refine ⟨Or.inr (by repeat (first | exact trivial | refine ⟨rfl, ?_⟩)), ?_⟩ | refine ⟨(?_ : _ = ([] : List (List T))), ?_⟩ | refine ⟨_, c_IsValidDatabase d h.1, ?_⟩ | refine ⟨_, fn_args (c_IsSelection v (d.Rows.length : Int) hv) (by rw [hm]; rfl), ?_⟩ | refine ⟨24, ⟨rfl, rfl⟩, ⟨(by decide), (by decide)⟩, ?_⟩ | refine ⟨_, c_SelectXor d.Rows v h hv, ?_⟩ | refine ⟨_, fn_args (c_XorBytes zero24 (selX d.Rows v d.Rows.length) (by rw [zero24_len]; decide) hb) (by rfl), ?_⟩ | fail))
  all_goals first
    | rfl
    | (simp_all [ansQ]; done)
    | skip
theorem c_sAnswerQuery (d : DDatabase) (v : List Int) (h : bigB d.Rows) (hv : v.length ≤ 1099511627776) : FnAt Tryz.prog 122 [.agg (DDatabase.e d), .one (L eI v)] [.one (.l 1 ((ansQ d v).map eU))] := by
  have hm := lenm (eL eU) d.Rows
  have hb := selX_len (v := v) h.2 d.Rows.length
  refine fn_of Tryz.func122 rfl (by kernel_rfl) rfl ?_
  all_goals repeat' (first | (with_reducible rfl) | ((conv => whnf); first | exact trivial | (with_reducible rfl) | exact (rfl : (0 : Int) = ((0 : Nat) : Int)) | exact w64_nat arith | refine bcase_T (by first | with_reducible rfl | decide) ?_ | refine bcase_F (by first | with_reducible rfl | decide) ?_ | refine bcase_dec (fun _ => ?_) (fun _ => ?_) | refine bcase_not ?_ | refine bcase_intro (fun _ => ?_) (fun _ => ?_) | refine ⟨(by with_reducible rfl), ?_⟩ | refine ⟨congrArg vi ?_, ?_⟩ | refine ⟨congrArg vb ?_, ?_⟩ | refine ⟨rfl, ?_⟩ | refine ⟨(by kernel_rfl : drawOK _ = true), ?_⟩ | refine Or.inl ?_ | refine ⟨⟨congrArg (T.int _) ?_, rfl⟩, ?_⟩ | refine ⟨⟨congrArg T.bool ?_, rfl⟩, ?_⟩ | refine ⟨⟨rfl, Nat.le_of_ble_eq_true rfl⟩, ?_⟩ | refine ⟨⟨rfl, rfl⟩, ?_⟩ | refine ⟨⟨rfl, (by decide)⟩, ?_⟩ | refine ⟨⟨rfl, ?_⟩, ?_⟩ | refine ⟨Or.inr rfl, ?_⟩ | refine ⟨Or.inl rfl, ?_⟩ | refine ⟨⟨⟨rfl, rfl, rfl⟩, ?_⟩, ?_⟩ | refine ⟨_, _, rfl, row_get _ _ arith, rfl, ?_⟩ | refine ⟨Or.inr (by repeat (first | exact trivial | refine ⟨rfl, ?_⟩)), ?_⟩ | refine ⟨(?_ : _ = ([] : List (List T))), ?_⟩ | refine ⟨_, c_sIsValidDatabase d h.1, ?_⟩ | refine ⟨_, fn_args (c_sIsSelection v (d.Rows.length : Int) hv) (by rw [hm]; rfl), ?_⟩ | refine ⟨24, ⟨rfl, rfl⟩, ⟨(by decide), (by decide)⟩, ?_⟩ | refine ⟨_, c_sSelectXor d.Rows v h hv, ?_⟩ | refine ⟨_, fn_args (c_sXorBytes zero24 (selX d.Rows v d.Rows.length) (by rw [zero24_len]; decide) hb) (by rfl), ?_⟩ | fail))
  all_goals first
    | rfl
    | (simp_all [ansQ]; done)
    | skip
def ansMac (k : Int) (a : DSignedAnswer) : Int := khash k ([191, a.Server, a.Round, (a.Selection.length : Int)] ++ a.Selection ++ bI a.Data)
theorem c_AnswerMAC (k : Int) (a : DSignedAnswer) (hs : a.Selection.length ≤ 500000000000) (hd : a.Data.length ≤ 500000000000) : FnAt Tryz.prog 107 [.one (I k), .agg (DSignedAnswer.e a)] [.one (.s (I (ansMac k a)))] := by
  have hm := lenm eI a.Selection
  have hb := bI_len a.Data
  have hf : ([[191, a.Server, a.Round, (a.Selection.length : Int)], a.Selection, bI a.Data] : List (List Int)).flatten = [191, a.Server, a.Round, (a.Selection.length : Int)] ++ a.Selection ++ bI a.Data := by simp
  refine fn_of Tryz.func107 rfl (by kernel_rfl) rfl ?_
  all_goals repeat' (first | (with_reducible rfl) | ((conv => whnf); first | exact trivial | (with_reducible rfl) | exact (rfl : (0 : Int) = ((0 : Nat) : Int)) | exact w64_nat arith | refine bcase_T (by first | with_reducible rfl | decide) ?_ | refine bcase_F (by first | with_reducible rfl | decide) ?_ | refine bcase_dec (fun _ => ?_) (fun _ => ?_) | refine bcase_not ?_ | refine bcase_intro (fun _ => ?_) (fun _ => ?_) | refine ⟨(by with_reducible rfl), ?_⟩ | refine ⟨congrArg vi ?_, ?_⟩ | refine ⟨congrArg vb ?_, ?_⟩ | refine ⟨rfl, ?_⟩ | refine ⟨(by kernel_rfl : drawOK _ = true), ?_⟩ | refine Or.inl ?_ | refine ⟨⟨congrArg (T.int _) ?_, rfl⟩, ?_⟩ | refine ⟨⟨congrArg T.bool ?_, rfl⟩, ?_⟩ | refine ⟨⟨rfl, Nat.le_of_ble_eq_true rfl⟩, ?_⟩ | refine ⟨⟨rfl, rfl⟩, ?_⟩ | refine ⟨⟨rfl, (by decide)⟩, ?_⟩ | refine ⟨⟨rfl, ?_⟩, ?_⟩ | refine ⟨Or.inr rfl, ?_⟩ | refine ⟨Or.inl rfl, ?_⟩ | refine ⟨⟨⟨rfl, rfl, rfl⟩, ?_⟩, ?_⟩ | refine ⟨_, _, rfl, row_get _ _ arith, rfl, ?_⟩ | refine ⟨Or.inr (by repeat (first | exact trivial | refine ⟨rfl, ?_⟩)), ?_⟩ | refine ⟨(?_ : _ = ([] : List (List T))), ?_⟩ | refine ⟨_, c_BytesToInts a.Data (by omega), ?_⟩ | refine ⟨_, fn_args (c_ConcatI [[191, a.Server, a.Round, (a.Selection.length : Int)], a.Selection, bI a.Data] (by simp) (by rw [hf]; simp; omega)) (by rw [hm]; rfl), ?_⟩ | refine ⟨_, fn_args (c_KeyedHash k ([191, a.Server, a.Round, (a.Selection.length : Int)] ++ a.Selection ++ bI a.Data) (by simp; omega)) (by rw [hf]; rfl), ?_⟩ | fail))
  all_goals rfl
theorem c_sAnswerMAC (k : Int) (a : DSignedAnswer) (hs : a.Selection.length ≤ 500000000000) (hd : a.Data.length ≤ 500000000000) : FnAt Tryz.prog 91 [.one (I k), .agg (DSignedAnswer.e a)] [.one (.s (I (ansMac k a)))] := by
  have hm := lenm eI a.Selection
  have hb := bI_len a.Data
  refine fn_of Tryz.func91 rfl (by kernel_rfl) rfl ?_
  all_goals repeat' (first | (with_reducible rfl) | ((conv => whnf); first | exact trivial | (with_reducible rfl) | exact (rfl : (0 : Int) = ((0 : Nat) : Int)) | exact w64_nat arith | refine bcase_T (by first | with_reducible rfl | decide) ?_ | refine bcase_F (by first | with_reducible rfl | decide) ?_ | refine bcase_dec (fun _ => ?_) (fun _ => ?_) | refine bcase_not ?_ | refine bcase_intro (fun _ => ?_) (fun _ => ?_) | refine ⟨(by with_reducible rfl), ?_⟩ | refine ⟨congrArg vi ?_, ?_⟩ | refine ⟨congrArg vb ?_, ?_⟩ | refine ⟨rfl, ?_⟩ | refine ⟨(by kernel_rfl : drawOK _ = true), ?_⟩ | refine Or.inl ?_ | refine ⟨⟨congrArg (T.int _) ?_, rfl⟩, ?_⟩ | refine ⟨⟨congrArg T.bool ?_, rfl⟩, ?_⟩ | refine ⟨⟨rfl, Nat.le_of_ble_eq_true rfl⟩, ?_⟩ | refine ⟨⟨rfl, rfl⟩, ?_⟩ | refine ⟨⟨rfl, (by decide)⟩, ?_⟩ | refine ⟨⟨rfl, ?_⟩, ?_⟩ | refine ⟨Or.inr rfl, ?_⟩ | refine ⟨Or.inl rfl, ?_⟩ | refine ⟨⟨⟨rfl, rfl, rfl⟩, ?_⟩, ?_⟩ | refine ⟨_, _, rfl, row_get _ _ arith, rfl, ?_⟩ | refine ⟨Or.inr (by repeat (first | exact trivial | refine ⟨rfl, ?_⟩)), ?_⟩ | refine ⟨(?_ : _ = ([] : List (List T))), ?_⟩ | refine ⟨_, c_sBytesToInts a.Data (by omega), ?_⟩ | refine ⟨true, fun _ => scalI _, lenI _, ⟨bnd, bnd⟩, ?_⟩ | refine ⟨true, fun _ => scalI _, ⟨rfl, rfl⟩, ⟨bnd, bnd⟩, ?_⟩ | refine ⟨_, fn_args (c_sKeyedHash k ([191, a.Server, a.Round, (a.Selection.length : Int)] ++ a.Selection ++ bI a.Data) (by simp; omega)) (by simp only [L, List.map_append, List.map_cons, List.map_nil, List.length_map]; rfl), ?_⟩ | fail))
  all_goals rfl
attribute [local irreducible] ansMac ansQ ansOk
def withMac (k : Int) (a : DSignedAnswer) : DSignedAnswer := ⟨a.Server, a.Round, a.Selection, a.Data, ansMac k a⟩
def signAns (k s r : Int) (d : DDatabase) (v : List Int) : DSignedAnswer := if ansOk d v then withMac k ⟨s, r, v, ansQ d v, 0⟩ else ⟨0, 0, [], [], 0⟩
def flip0 : List UInt8 → List UInt8
  | [] => []
  | b :: l => (b ^^^ 128) :: l
def lieAns (k : Int) (a : DSignedAnswer) : DSignedAnswer := withMac k ⟨a.Server, a.Round, a.Selection, flip0 a.Data, a.MAC⟩
def ansAs (sv : DServer) (k r : Int) (d : DDatabase) (v : List Int) : DSignedAnswer := if ansOk d v && decide (sv.Behavior = 3) then lieAns k (signAns k sv.Id r d v) else signAns k sv.Id r d v
def verAns (k : Int) (a : DSignedAnswer) : Bool := decide (a.MAC = ansMac k a)
def falseAns (k : Int) (d : DDatabase) (a : DSignedAnswer) : Bool := verAns k a && !(a.Data == ansQ d a.Selection)
theorem c_SignAnswer (k s r : Int) (d : DDatabase) (v : List Int) (h : bigB d.Rows) (hv : v.length ≤ 500000000000) (hq : (ansQ d v).length ≤ 500000000000) : FnAt Tryz.prog 68 [.one (I k), .one (I s), .one (I r), .agg (DDatabase.e d), .one (L eI v)] [.agg (DSignedAnswer.r (signAns k s r d v)), .one (.s (.bool (ansOk d v)))] := by
  have hn := ansQ_nil d v
  have hm := lenm eU (ansQ d v)
  cases h1 : ansOk d v with
  | false =>
    have e : signAns k s r d v = ⟨0, 0, [], [], 0⟩ := by unfold signAns; rw [h1]; rfl
    rw [e]
    refine fn_of Tryz.func68 rfl (by kernel_rfl) rfl ?_
    all_goals repeat' (first | (with_reducible rfl) | ((conv => whnf); first | refine ⟨_, c_AnswerQuery d v h (by omega), ?_⟩ | refine bcase_T (by rw [hm, hn.2 h1]; rfl) ?_ | exact trivial | (with_reducible rfl) | exact (rfl : (0 : Int) = ((0 : Nat) : Int)) | exact w64_nat arith | refine bcase_T (by first | with_reducible rfl | decide) ?_ | refine bcase_F (by first | with_reducible rfl | decide) ?_ | refine bcase_dec (fun _ => ?_) (fun _ => ?_) | refine bcase_not ?_ | refine bcase_intro (fun _ => ?_) (fun _ => ?_) | refine ⟨(by with_reducible rfl), ?_⟩ | refine ⟨congrArg vi ?_, ?_⟩ | refine ⟨congrArg vb ?_, ?_⟩ | refine ⟨rfl, ?_⟩ | refine ⟨(by kernel_rfl : drawOK _ = true), ?_⟩ | refine Or.inl ?_ | refine ⟨⟨congrArg (T.int _) ?_, rfl⟩, ?_⟩ | refine ⟨⟨congrArg T.bool ?_, rfl⟩, ?_⟩ | refine ⟨⟨rfl, Nat.le_of_ble_eq_true rfl⟩, ?_⟩ | refine ⟨⟨rfl, rfl⟩, ?_⟩ | refine ⟨⟨rfl, (by decide)⟩, ?_⟩ | refine ⟨⟨rfl, ?_⟩, ?_⟩ | refine ⟨Or.inr rfl, ?_⟩ | refine ⟨Or.inl rfl, ?_⟩ | refine ⟨⟨⟨rfl, rfl, rfl⟩, ?_⟩, ?_⟩ | refine ⟨_, _, rfl, row_get _ _ arith, rfl, ?_⟩ | refine ⟨Or.inr (by repeat (first | exact trivial | refine ⟨rfl, ?_⟩)), ?_⟩ | refine ⟨(?_ : _ = ([] : List (List T))), ?_⟩ | fail))
    all_goals rfl
  | true =>
    have e : signAns k s r d v = withMac k ⟨s, r, v, ansQ d v, 0⟩ := by unfold signAns; rw [h1]; rfl
    have h2 : ¬ (ansQ d v).length = 0 := fun hh => by rw [hn.1 hh] at h1; cases h1
    rw [e]
    refine fn_of Tryz.func68 rfl (by kernel_rfl) rfl ?_
    all_goals repeat' (first | (with_reducible rfl) | ((conv => whnf); first | refine ⟨_, c_AnswerQuery d v h (by omega), ?_⟩ | refine bcase_F (by rw [hm, beq_eq_false_iff_ne]; omega) ?_ | refine ⟨_, c_CloneI v (by omega), ?_⟩ | (refine Or.inr ⟨rfl, Or.inr (Or.inr ?_)⟩; (conv => whnf); refine jat_ Tryz.func69 rfl (by kernel_rfl) (by rfl) (by rfl) ?_) | refine ⟨_, c_AnswerMAC k ⟨s, r, v, ansQ d v, 0⟩ hv hq, ?_⟩ | exact trivial | (with_reducible rfl) | exact (rfl : (0 : Int) = ((0 : Nat) : Int)) | exact w64_nat arith | refine bcase_T (by first | with_reducible rfl | decide) ?_ | refine bcase_F (by first | with_reducible rfl | decide) ?_ | refine bcase_dec (fun _ => ?_) (fun _ => ?_) | refine bcase_not ?_ | refine bcase_intro (fun _ => ?_) (fun _ => ?_) | refine ⟨(by with_reducible rfl), ?_⟩ | refine ⟨congrArg vi ?_, ?_⟩ | refine ⟨congrArg vb ?_, ?_⟩ | refine ⟨rfl, ?_⟩ | refine ⟨(by kernel_rfl : drawOK _ = true), ?_⟩ | refine Or.inl ?_ | refine ⟨⟨congrArg (T.int _) ?_, rfl⟩, ?_⟩ | refine ⟨⟨congrArg T.bool ?_, rfl⟩, ?_⟩ | refine ⟨⟨rfl, Nat.le_of_ble_eq_true rfl⟩, ?_⟩ | refine ⟨⟨rfl, rfl⟩, ?_⟩ | refine ⟨⟨rfl, (by decide)⟩, ?_⟩ | refine ⟨⟨rfl, ?_⟩, ?_⟩ | refine ⟨Or.inr rfl, ?_⟩ | refine ⟨Or.inl rfl, ?_⟩ | refine ⟨⟨⟨rfl, rfl, rfl⟩, ?_⟩, ?_⟩ | refine ⟨_, _, rfl, row_get _ _ arith, rfl, ?_⟩ | refine ⟨Or.inr (by repeat (first | exact trivial | refine ⟨rfl, ?_⟩)), ?_⟩ | refine ⟨(?_ : _ = ([] : List (List T))), ?_⟩ | fail))
    all_goals rfl
theorem c_sSignAnswer (k s r : Int) (d : DDatabase) (v : List Int) (h : bigB d.Rows) (hv : v.length ≤ 500000000000) (hq : (ansQ d v).length ≤ 500000000000) : FnAt Tryz.prog 90 [.one (I k), .one (I s), .one (I r), .agg (DDatabase.e d), .one (L eI v)] [.agg (DSignedAnswer.r (signAns k s r d v)), .one (.s (.bool (ansOk d v)))] := by
  have hn := ansQ_nil d v
  have hm := lenm eU (ansQ d v)
  cases h1 : ansOk d v with
  | false =>
    have e : signAns k s r d v = ⟨0, 0, [], [], 0⟩ := by unfold signAns; rw [h1]; rfl
    rw [e]
    refine fn_of Tryz.func90 rfl (by kernel_rfl) rfl ?_
    all_goals repeat' (first | (with_reducible rfl) | ((conv => whnf); first | refine ⟨_, c_sAnswerQuery d v h (by omega), ?_⟩ | refine bcase_T (by rw [hm, hn.2 h1]; rfl) ?_ | exact trivial | (with_reducible rfl) | exact (rfl : (0 : Int) = ((0 : Nat) : Int)) | exact w64_nat arith | refine bcase_T (by first | with_reducible rfl | decide) ?_ | refine bcase_F (by first | with_reducible rfl | decide) ?_ | refine bcase_dec (fun _ => ?_) (fun _ => ?_) | refine bcase_not ?_ | refine bcase_intro (fun _ => ?_) (fun _ => ?_) | refine ⟨(by with_reducible rfl), ?_⟩ | refine ⟨congrArg vi ?_, ?_⟩ | refine ⟨congrArg vb ?_, ?_⟩ | refine ⟨rfl, ?_⟩ | refine ⟨(by kernel_rfl : drawOK _ = true), ?_⟩ | refine Or.inl ?_ | refine ⟨⟨congrArg (T.int _) ?_, rfl⟩, ?_⟩ | refine ⟨⟨congrArg T.bool ?_, rfl⟩, ?_⟩ | refine ⟨⟨rfl, Nat.le_of_ble_eq_true rfl⟩, ?_⟩ | refine ⟨⟨rfl, rfl⟩, ?_⟩ | refine ⟨⟨rfl, (by decide)⟩, ?_⟩ | refine ⟨⟨rfl, ?_⟩, ?_⟩ | refine ⟨Or.inr rfl, ?_⟩ | refine ⟨Or.inl rfl, ?_⟩ | refine ⟨⟨⟨rfl, rfl, rfl⟩, ?_⟩, ?_⟩ | refine ⟨_, _, rfl, row_get _ _ arith, rfl, ?_⟩ | refine ⟨Or.inr (by repeat (first | exact trivial | refine ⟨rfl, ?_⟩)), ?_⟩ | refine ⟨(?_ : _ = ([] : List (List T))), ?_⟩ | fail))
    all_goals rfl
  | true =>
    have e : signAns k s r d v = withMac k ⟨s, r, v, ansQ d v, 0⟩ := by unfold signAns; rw [h1]; rfl
    have h2 : ¬ (ansQ d v).length = 0 := fun hh => by rw [hn.1 hh] at h1; cases h1
    rw [e]
    refine fn_of Tryz.func90 rfl (by kernel_rfl) rfl ?_
    all_goals repeat' (first | (with_reducible rfl) | ((conv => whnf); first | refine ⟨_, c_sAnswerQuery d v h (by omega), ?_⟩ | refine bcase_F (by rw [hm, beq_eq_false_iff_ne]; omega) ?_ | refine ⟨true, fun _ => scalI _, lenI _, ⟨bnd, bnd⟩, ?_⟩ | refine ⟨_, c_sAnswerMAC k ⟨s, r, v, ansQ d v, 0⟩ hv hq, ?_⟩ | exact trivial | (with_reducible rfl) | exact (rfl : (0 : Int) = ((0 : Nat) : Int)) | exact w64_nat arith | refine bcase_T (by first | with_reducible rfl | decide) ?_ | refine bcase_F (by first | with_reducible rfl | decide) ?_ | refine bcase_dec (fun _ => ?_) (fun _ => ?_) | refine bcase_not ?_ | refine bcase_intro (fun _ => ?_) (fun _ => ?_) | refine ⟨(by with_reducible rfl), ?_⟩ | refine ⟨congrArg vi ?_, ?_⟩ | refine ⟨congrArg vb ?_, ?_⟩ | refine ⟨rfl, ?_⟩ | refine ⟨(by kernel_rfl : drawOK _ = true), ?_⟩ | refine Or.inl ?_ | refine ⟨⟨congrArg (T.int _) ?_, rfl⟩, ?_⟩ | refine ⟨⟨congrArg T.bool ?_, rfl⟩, ?_⟩ | refine ⟨⟨rfl, Nat.le_of_ble_eq_true rfl⟩, ?_⟩ | refine ⟨⟨rfl, rfl⟩, ?_⟩ | refine ⟨⟨rfl, (by decide)⟩, ?_⟩ | refine ⟨⟨rfl, ?_⟩, ?_⟩ | refine ⟨Or.inr rfl, ?_⟩ | refine ⟨Or.inl rfl, ?_⟩ | refine ⟨⟨⟨rfl, rfl, rfl⟩, ?_⟩, ?_⟩ | refine ⟨_, _, rfl, row_get _ _ arith, rfl, ?_⟩ | refine ⟨Or.inr (by repeat (first | exact trivial | refine ⟨rfl, ?_⟩)), ?_⟩ | refine ⟨(?_ : _ = ([] : List (List T))), ?_⟩ | fail))
    all_goals rfl
end Go.Proofs.YtmaamiapipngaaaGreat
