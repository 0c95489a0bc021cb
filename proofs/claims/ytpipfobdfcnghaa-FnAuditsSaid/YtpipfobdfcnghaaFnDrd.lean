/-
  Contracts: a new cursor; a round to be added, as it is drawn.
  Conditions: none.
-/
import Derived.Test.YtpipfobdfcnghaaFnDra
namespace Go.Proofs.Ytpipfobdfcnghaa
set_option maxHeartbeats 4000000
set_option maxRecDepth 20000
open Go.Vm Go.RowKit
attribute [local irreducible] FnAt MutAt InAt JAt CurAt FnE CurE RegAt
def nwH (b : List UInt8) : Nat → Int
  | 0 => IntKind.i64.wrap (193017 + b.length)
  | i + 1 => bits .and .i64 (IntKind.i64.wrap (IntKind.i64.wrap (IntKind.i64.wrap (nwH b i * 137) + IntKind.i64.wrap ((b[i]?.getD 0).toNat : Int)) + 11)) 1073741823
def nwC (b : List UInt8) : Cu := ⟨b, 0, nwH b (min b.length 4000)⟩
theorem nwH_succ (b : List UInt8) {i : Nat} (h : i < b.length) : nwH b (i + 1) = bits .and .i64 (IntKind.i64.wrap (IntKind.i64.wrap (IntKind.i64.wrap (nwH b i * 137) + IntKind.i64.wrap (b[i].toNat : Int)) + 11)) 1073741823 := by
  simp only [nwH, List.getElem?_eq_getElem h, Option.getD_some]
theorem c_l1New (b : List UInt8) (hb : b.length ≤ 1048576) : NewAt Try.prog 16 [.one (L eU b)] (Cu.e (nwC b)) := by
  have hm : (b.map eU).length = b.length := List.length_map _
  refine new_of_ev tys_ok (by kernel_rfl) Try.func16 rfl (by kernel_rfl) rfl ?_
  all_goals repeat' (first | (with_reducible rfl) | ((conv => whnf); first | exact trivial | (with_reducible rfl) | exact (rfl : (0 : Int) = ((0 : Nat) : Int)) | exact w64_nat arith | refine bcase_T (by first | with_reducible rfl | decide) ?_ | refine bcase_F (by first | with_reducible rfl | decide) ?_ | refine bcase_dec (fun _ => ?_) (fun _ => ?_) | refine bcase_not ?_ | refine bcase_intro (fun _ => ?_) (fun _ => ?_) | refine ⟨(by with_reducible rfl), ?_⟩ | refine ⟨congrArg vi ?_, ?_⟩ | refine ⟨congrArg vb ?_, ?_⟩ | refine ⟨rfl, ?_⟩ | refine ⟨(by kernel_rfl : drawOK _ = true), ?_⟩ | refine Or.inl ?_ | refine ⟨⟨congrArg (T.int _) ?_, rfl⟩, ?_⟩ | refine ⟨⟨congrArg T.bool ?_, rfl⟩, ?_⟩ | refine ⟨⟨rfl, Nat.le_of_ble_eq_true rfl⟩, ?_⟩ | refine ⟨⟨rfl, rfl⟩, ?_⟩ | refine ⟨⟨rfl, (by decide)⟩, ?_⟩ | refine ⟨⟨rfl, ?_⟩, ?_⟩ | refine ⟨Or.inr rfl, ?_⟩ | refine ⟨Or.inl rfl, ?_⟩ | refine ⟨⟨⟨rfl, rfl, rfl⟩, ?_⟩, ?_⟩ | refine ⟨_, _, rfl, row_get _ _ arith, rfl, ?_⟩ | refine ⟨Or.inr (by repeat (first | exact trivial | refine ⟨rfl, ?_⟩)), ?_⟩ | refine ⟨(?_ : _ = ([] : List (List T))), ?_⟩ | fail))
  conv => whnf
  refine ⟨Nat, fun i => i ≤ b.length ∧ i ≤ 4000, fun i => ⟨[(0, .c (.anc (L eU b))), (3, vi (nwH b i)), (4, vi i)], [], 0⟩, fun i => b.length - i, 0, ⟨Nat.zero_le _, Nat.zero_le _⟩, ⟨[], rfl, rfl, rfl, ?_, ?_⟩, fun i hi => ?_⟩
  all_goals repeat' (first | (with_reducible rfl) | ((conv => whnf); first | exact trivial | (with_reducible rfl) | exact (rfl : (0 : Int) = ((0 : Nat) : Int)) | exact w64_nat arith | refine bcase_T (by first | with_reducible rfl | decide) ?_ | refine bcase_F (by first | with_reducible rfl | decide) ?_ | refine bcase_dec (fun _ => ?_) (fun _ => ?_) | refine bcase_not ?_ | refine bcase_intro (fun _ => ?_) (fun _ => ?_) | refine ⟨(by with_reducible rfl), ?_⟩ | refine ⟨congrArg vi ?_, ?_⟩ | refine ⟨congrArg vb ?_, ?_⟩ | refine ⟨rfl, ?_⟩ | refine ⟨(by kernel_rfl : drawOK _ = true), ?_⟩ | refine Or.inl ?_ | refine ⟨⟨congrArg (T.int _) ?_, rfl⟩, ?_⟩ | refine ⟨⟨congrArg T.bool ?_, rfl⟩, ?_⟩ | refine ⟨⟨rfl, Nat.le_of_ble_eq_true rfl⟩, ?_⟩ | refine ⟨⟨rfl, rfl⟩, ?_⟩ | refine ⟨⟨rfl, (by decide)⟩, ?_⟩ | refine ⟨⟨rfl, ?_⟩, ?_⟩ | refine ⟨Or.inr rfl, ?_⟩ | refine ⟨Or.inl rfl, ?_⟩ | refine ⟨⟨⟨rfl, rfl, rfl⟩, ?_⟩, ?_⟩ | refine ⟨_, _, rfl, row_get _ _ arith, rfl, ?_⟩ | refine ⟨Or.inr (by repeat (first | exact trivial | refine ⟨rfl, ?_⟩)), ?_⟩ | refine ⟨(?_ : _ = ([] : List (List T))), ?_⟩ | refine ⟨i, _, rfl, row_get _ _ (lt_map (by assumption)), rfl, ?_⟩ | refine ⟨i + 1, ⟨⟨arith, arith⟩, arith⟩, ⟨[], rfl, rfl, rfl, ?_, ?_⟩⟩ | fail))
  all_goals first
    | (rw [hm]; rfl)
    | (rw [nwH_succ b (lt_map (by assumption))]; done)
    | (have e : i = min b.length 4000 := (by have h1 := hi.1; have h2 := hi.2; simp only [List.length_map] at *; omega); show nwH b i = nwH b (min b.length 4000); rw [← e]; done)
