/-
  Contracts: seeds of a write.
  Conditions: none.
-/
import Derived.Test.YteecgbgdmfjogaaGreatFnEq
import Derived.Test.YteecgbgdmfjogaaGreatFnK
namespace Go.Proofs.YteecgbgdmfjogaaGreat
set_option maxHeartbeats 4000000
set_option maxRecDepth 20000
open Go.Vm Go.RowKit
attribute [local irreducible] FnAt MutAt InAt JAt CurAt FnE CurE RegAt

theorem range_take {α : Type} (f : Nat → α) (i : Nat) : (List.range (i + 1)).map f = (List.range i).map f ++ [f i] := by rw [List.range_succ, List.map_append]; rfl
def wSeed (w : DWorld) (c : Int) (i : Nat) : Int := khash w.Seed [223, w.Round, c, (i : Int)]
def wSeeds (w : DWorld) (c : Int) : List Int := (List.range (w.Servers.length - 1)).map (wSeed w c)
theorem wSeeds_len (w : DWorld) (c : Int) : (wSeeds w c).length = w.Servers.length - 1 := by rw [wSeeds, List.length_map, List.length_range]
theorem c_WriteSeeds (w : DWorld) (c : Int) (h : w.Servers.length ≤ 1099511627776) : FnAt Tryz.prog 16 [.agg (DWorld.e w), .one (I c)] [.one (.l 1 ((wSeeds w c).map eI))] := by
  have hm := lenm DServer.e w.Servers
  have hw : IntKind.i64.wrap (((w.Servers.map DServer.e).length : Nat) - 1) = (w.Servers.length : Int) - 1 := by rw [hm]; exact w64_ok (by omega) (by omega)
  have hmx : (if 0 < IntKind.i64.wrap (((w.Servers.map DServer.e).length : Nat) - 1) then IntKind.i64.wrap (((w.Servers.map DServer.e).length : Nat) - 1) else 0) = ((w.Servers.length - 1 : Nat) : Int) := by rw [hw]; split <;> omega
  have hlr0 : ∀ i, (List.range i).length = i := fun i => List.length_range
  refine fn_of Tryz.func16 rfl (by kernel_rfl) rfl ?_
  all_goals repeat' (first | (with_reducible rfl) | ((conv => whnf); first | exact trivial | (with_reducible rfl) | exact (rfl : (0 : Int) = ((0 : Nat) : Int)) | exact w64_nat arith | refine bcase_T (by first | with_reducible rfl | decide) ?_ | refine bcase_F (by first | with_reducible rfl | decide) ?_ | refine bcase_dec (fun _ => ?_) (fun _ => ?_) | refine bcase_not ?_ | refine bcase_intro (fun _ => ?_) (fun _ => ?_) | refine ⟨(by with_reducible rfl), ?_⟩ | refine ⟨congrArg vi ?_, ?_⟩ | refine ⟨congrArg vb ?_, ?_⟩ | refine ⟨rfl, ?_⟩ | refine ⟨(by kernel_rfl : drawOK _ = true), ?_⟩ | refine Or.inl ?_ | refine ⟨⟨congrArg (T.int _) ?_, rfl⟩, ?_⟩ | refine ⟨⟨congrArg T.bool ?_, rfl⟩, ?_⟩ | refine ⟨⟨rfl, Nat.le_of_ble_eq_true rfl⟩, ?_⟩ | refine ⟨⟨rfl, rfl⟩, ?_⟩ | refine ⟨⟨rfl, (by decide)⟩, ?_⟩ | refine ⟨⟨rfl, ?_⟩, ?_⟩ | refine ⟨Or.inr rfl, ?_⟩ | refine ⟨Or.inl rfl, ?_⟩ | refine ⟨⟨⟨rfl, rfl, rfl⟩, ?_⟩, ?_⟩ | refine ⟨_, _, rfl, row_get _ _ arith, rfl, ?_⟩ | refine ⟨Or.inr (by repeat (first | exact trivial | refine ⟨rfl, ?_⟩)), ?_⟩ | refine ⟨(?_ : _ = ([] : List (List T))), ?_⟩ | fail))
  conv => whnf
  refine ⟨Nat, fun i => i ≤ w.Servers.length - 1, fun i => ⟨[(1, vi c), (2, .ptr 0 0), (5, .c (.ref 1)), (12, vi (w.Servers.length - 1 : Nat)), (13, vi i)], [(0, .box ((DWorld.e w).map .t)), (1, .row true true 1 (((List.range i).map (wSeed w c)).map eI))], 2⟩, fun i => w.Servers.length - 1 - i, 0, Nat.zero_le _, sub_at [(0, 2), (1, 5)] rfl rfl rfl ?_ ?_, fun i (hi : i ≤ w.Servers.length - 1) => ?_⟩
  all_goals repeat' (first | (with_reducible rfl) | ((conv => whnf); first | exact trivial | (with_reducible rfl) | exact (rfl : (0 : Int) = ((0 : Nat) : Int)) | exact w64_nat arith | refine bcase_T (by first | with_reducible rfl | decide) ?_ | refine bcase_F (by first | with_reducible rfl | decide) ?_ | refine bcase_dec (fun _ => ?_) (fun _ => ?_) | refine bcase_not ?_ | refine bcase_intro (fun _ => ?_) (fun _ => ?_) | refine ⟨(by with_reducible rfl), ?_⟩ | refine ⟨congrArg vi ?_, ?_⟩ | refine ⟨congrArg vb ?_, ?_⟩ | refine ⟨rfl, ?_⟩ | refine ⟨(by kernel_rfl : drawOK _ = true), ?_⟩ | refine Or.inl ?_ | refine ⟨⟨congrArg (T.int _) ?_, rfl⟩, ?_⟩ | refine ⟨⟨congrArg T.bool ?_, rfl⟩, ?_⟩ | refine ⟨⟨rfl, Nat.le_of_ble_eq_true rfl⟩, ?_⟩ | refine ⟨⟨rfl, rfl⟩, ?_⟩ | refine ⟨⟨rfl, (by decide)⟩, ?_⟩ | refine ⟨⟨rfl, ?_⟩, ?_⟩ | refine ⟨Or.inr rfl, ?_⟩ | refine ⟨Or.inl rfl, ?_⟩ | refine ⟨⟨⟨rfl, rfl, rfl⟩, ?_⟩, ?_⟩ | refine ⟨_, _, rfl, row_get _ _ arith, rfl, ?_⟩ | refine ⟨Or.inr (by repeat (first | exact trivial | refine ⟨rfl, ?_⟩)), ?_⟩ | refine ⟨(?_ : _ = ([] : List (List T))), ?_⟩ | refine ⟨_, c_KeyedHash w.Seed [223, w.Round, c, (i : Int)] (by simp), ?_⟩ | (have hlr := hlr0 i; refine ⟨true, fun _ => (by simp [isScal]), ⟨rfl, rfl⟩, ⟨bnd, bnd⟩, ?_⟩) | refine ⟨i + 1, ⟨arith, arith⟩, sub_at [(0, 2), (1, 5)] rfl rfl rfl ?_ ?_⟩ | fail))
  all_goals first
    | exact hmx
    | (rw [range_take, List.map_append]; rfl)
    | (have e : i = w.Servers.length - 1 := (by omega); subst e; rfl)
    | rfl
    | skip
end Go.Proofs.YteecgbgdmfjogaaGreat
