/-
  Contracts of the statements.
  Conditions: none.
-/
import Derived.Test.YtmkgakabmffibaaFnRd
import Derived.Test.YtmkgakabmffibaaFnI
import Derived.Test.YtmkgakabmffibaaFnJ
namespace Go.Proofs.Ytmkgakabmffibaa
set_option maxHeartbeats 4000000
set_option maxRecDepth 20000
open Go.Vm Go.RowKit
attribute [local irreducible] FnAt MutAt InAt

theorem c_FnExactClientRead (a0 : DClient) (a1 : Int) (a2 : (List UInt8)) (a3 : (List UInt8)) (k0 : DClient.ok a0) (_k1 : okI a1) (_k2 : (okL okU) a2) (_k3 : (okL okU) a3) : FnAt Try.prog 4 [.agg (DClient.e a0), .one (I a1), .one (L eU a2), .one (L eU a3)] [.one (.s (.bool true))] := by
  have hr := readC_sz a0 a1 a2 a3
  have hc1 := cnt_ByteSS (readC a0 a1 a2 a3).Submitted
  have hc2 := cnt_ByteSS (readC a0 a1 a2 a3).Inbox
  have hca0_0 := cnt_ByteSS a0.Submitted
  have hca0_1 := cnt_ByteSS a0.Inbox
  have hca2_0 := cnt_ByteS a2
  have hca3_0 := cnt_ByteS a3
  refine fn_of Try.func4 rfl (by kernel_rfl) rfl ?_
  all_goals repeat' (first
    | (with_reducible rfl)
    | (conv => whnf
       first
         | refine bcase_szS (fun _ => ?_) (fun _ _ => ?_)
         | refine bcase_F (by first | rfl | (rw [decide_eq_false_iff_not]; omega) | (refine bne_eq_false_iff_eq.2 ?_; omega)) ?_
         | (refine Or.inl ?_; (conv => whnf); first | refine ⟨_, c_sClientRead a0 a1 a2 a3 (bigC_of (by simp only [DClient.sz] at *; omega)) (by simp only [List.length_map] at *; omega) (by simp only [List.length_map] at *; omega), ?_⟩ | refine ⟨_, c_ClientRead a0 a1 a2 a3 (bigC_of (by simp only [DClient.sz] at *; omega)) (by simp only [List.length_map] at *; omega) (by simp only [List.length_map] at *; omega), ?_⟩ | refine ⟨_, c_szClient _ _ (by first | exact k0 | exact k1 | exact k2 | exact k3) (by omega), ?_⟩ | refine ⟨_, c_toClient _ (by first | assumption | omega | (simp only [DClient.sz] at *; omega) | (simp only [List.length_map] at *; omega) | (simp only [List.length_map, DClient.sz] at *; omega)), ?_⟩ | refine ⟨_, c_eqByteS _ (by first | assumption | omega | (simp only [DClient.sz] at *; omega) | (simp only [List.length_map] at *; omega) | (simp only [List.length_map, DClient.sz] at *; omega)), ?_⟩ | refine ⟨_, c_eqClient _ (by first | assumption | omega | (simp only [DClient.sz] at *; omega) | (simp only [List.length_map] at *; omega) | (simp only [List.length_map, DClient.sz] at *; omega)), ?_⟩ | refine ⟨_, c_toByteS _ (by first | assumption | omega | (simp only [DClient.sz] at *; omega) | (simp only [List.length_map] at *; omega) | (simp only [List.length_map, DClient.sz] at *; omega)), ?_⟩ | refine ⟨_, c_heldClient _ _ (by first | assumption | omega | (simp only [DClient.sz] at *; omega) | (simp only [List.length_map] at *; omega) | (simp only [List.length_map, DClient.sz] at *; omega)) (by first | assumption | omega | (simp only [DClient.sz] at *; omega) | (simp only [List.length_map] at *; omega) | (simp only [List.length_map, DClient.sz] at *; omega)), ?_⟩)
         | (refine Or.inr ⟨rfl, Or.inr ?_⟩; (conv => whnf); first | refine ⟨rfl, _, _, c_markClient _ _ (by first | assumption | omega | (simp only [DClient.sz] at *; omega) | (simp only [List.length_map] at *; omega) | (simp only [List.length_map, DClient.sz] at *; omega)) (by first | assumption | omega | (simp only [DClient.sz] at *; omega) | (simp only [List.length_map] at *; omega) | (simp only [List.length_map, DClient.sz] at *; omega)), ?_⟩ | refine ⟨rfl, _, _, c_markByteS _ _ (by first | assumption | omega | (simp only [DClient.sz] at *; omega) | (simp only [List.length_map] at *; omega) | (simp only [List.length_map, DClient.sz] at *; omega)) (by first | assumption | omega | (simp only [DClient.sz] at *; omega) | (simp only [List.length_map] at *; omega) | (simp only [List.length_map, DClient.sz] at *; omega)), ?_⟩)
         | exact trivial
         | (with_reducible rfl)
         | exact (rfl : (0 : Int) = ((0 : Nat) : Int))
         | exact w64_nat arith
         | refine bcase_T (by first | with_reducible rfl | decide) ?_
         | refine bcase_F (by first | with_reducible rfl | decide) ?_
         | refine bcase_dec (fun _ => ?_) (fun _ => ?_)
         | refine bcase_not ?_
         | refine bcase_intro (fun _ => ?_) (fun _ => ?_)
         | refine ⟨(by with_reducible rfl), ?_⟩
         | refine ⟨congrArg vi ?_, ?_⟩
         | refine ⟨congrArg vb ?_, ?_⟩
         | refine ⟨rfl, ?_⟩
         | refine ⟨(by kernel_rfl : drawOK _ = true), ?_⟩
         | refine Or.inl ?_
         | refine ⟨⟨congrArg (T.int _) ?_, rfl⟩, ?_⟩
         | refine ⟨⟨congrArg T.bool ?_, rfl⟩, ?_⟩
         | refine ⟨⟨rfl, Nat.le_of_ble_eq_true rfl⟩, ?_⟩
         | refine ⟨⟨rfl, rfl⟩, ?_⟩
         | refine ⟨⟨rfl, (by decide)⟩, ?_⟩
         | refine ⟨⟨rfl, ?_⟩, ?_⟩
         | refine ⟨Or.inr rfl, ?_⟩
         | refine ⟨Or.inl rfl, ?_⟩
         | refine ⟨⟨⟨rfl, rfl, rfl⟩, ?_⟩, ?_⟩
         | refine ⟨_, _, rfl, row_get _ _ arith, rfl, ?_⟩
         | refine ⟨Or.inr (by repeat (first | exact trivial | refine ⟨rfl, ?_⟩)), ?_⟩
         | refine ⟨(?_ : _ = ([] : List (List T))), ?_⟩
         | fail))
  all_goals (first | rfl | (simp_all; done))
theorem c_FnExactReadOnDevice (a0 : DDevice) (a1 : Int) (a2 : (List UInt8)) (a3 : (List UInt8)) (k0 : DDevice.ok a0) (_k1 : okI a1) (_k2 : (okL okU) a2) (_k3 : (okL okU) a3) : FnAt Try.prog 7 [.agg (DDevice.e a0), .one (I a1), .one (L eU a2), .one (L eU a3)] [.one (.s (.bool true))] := by
  have hr := readD_sz a0 a1 a2 a3
  have hc0 := cnt_ByteSS (readD a0 a1 a2 a3).Live.Submitted
  have hc1 := cnt_ByteSS (readD a0 a1 a2 a3).Live.Inbox
  have hc2 := cnt_ByteSS (readD a0 a1 a2 a3).Saved.Submitted
  have hc3 := cnt_ByteSS (readD a0 a1 a2 a3).Saved.Inbox
  have hca0_0 := cnt_ByteSS a0.Live.Submitted
  have hca0_1 := cnt_ByteSS a0.Live.Inbox
  have hca0_2 := cnt_ByteSS a0.Saved.Submitted
  have hca0_3 := cnt_ByteSS a0.Saved.Inbox
  have hca2_0 := cnt_ByteS a2
  have hca3_0 := cnt_ByteS a3
  refine fn_of Try.func7 rfl (by kernel_rfl) rfl ?_
  all_goals repeat' (first
    | (with_reducible rfl)
    | (conv => whnf
       first
         | refine bcase_szS (fun _ => ?_) (fun _ _ => ?_)
         | refine bcase_F (by first | rfl | (rw [decide_eq_false_iff_not]; omega) | (refine bne_eq_false_iff_eq.2 ?_; omega)) ?_
         | (refine Or.inl ?_; (conv => whnf); first | refine ⟨_, c_sReadOnDevice a0 a1 a2 a3 (bigD_of (by omega)) (by simp only [List.length_map] at *; omega) (by simp only [List.length_map] at *; omega), ?_⟩ | refine ⟨_, c_ReadOnDevice a0 a1 a2 a3 (bigD_of (by omega)) (by simp only [List.length_map] at *; omega) (by simp only [List.length_map] at *; omega), ?_⟩ | refine ⟨_, c_eqByteS _ (by first | assumption | omega | (simp only [DClient.sz, DDevice.sz] at *; omega) | (simp only [List.length_map] at *; omega) | (simp only [List.length_map, DClient.sz, DDevice.sz] at *; omega)), ?_⟩ | refine ⟨_, c_toByteS _ (by first | assumption | omega | (simp only [DClient.sz, DDevice.sz] at *; omega) | (simp only [List.length_map] at *; omega) | (simp only [List.length_map, DClient.sz, DDevice.sz] at *; omega)), ?_⟩ | refine ⟨_, c_szDevice _ _ (by first | exact k0 | exact k1 | exact k2 | exact k3) (by omega), ?_⟩ | refine ⟨_, c_toDevice _ (by first | assumption | omega | (simp only [DClient.sz, DDevice.sz] at *; omega) | (simp only [List.length_map] at *; omega) | (simp only [List.length_map, DClient.sz, DDevice.sz] at *; omega)), ?_⟩ | refine ⟨_, c_eqDevice _ (by first | assumption | omega | (simp only [DClient.sz, DDevice.sz] at *; omega) | (simp only [List.length_map] at *; omega) | (simp only [List.length_map, DClient.sz, DDevice.sz] at *; omega)), ?_⟩ | refine ⟨_, c_heldDevice _ _ (by first | assumption | omega | (simp only [DClient.sz, DDevice.sz] at *; omega) | (simp only [List.length_map] at *; omega) | (simp only [List.length_map, DClient.sz, DDevice.sz] at *; omega)) (by first | assumption | omega | (simp only [DClient.sz, DDevice.sz] at *; omega) | (simp only [List.length_map] at *; omega) | (simp only [List.length_map, DClient.sz, DDevice.sz] at *; omega)), ?_⟩)
         | (refine Or.inr ⟨rfl, Or.inr ?_⟩; (conv => whnf); first | refine ⟨rfl, _, _, c_markByteS _ _ (by first | assumption | omega | (simp only [DClient.sz, DDevice.sz] at *; omega) | (simp only [List.length_map] at *; omega) | (simp only [List.length_map, DClient.sz, DDevice.sz] at *; omega)) (by first | assumption | omega | (simp only [DClient.sz, DDevice.sz] at *; omega) | (simp only [List.length_map] at *; omega) | (simp only [List.length_map, DClient.sz, DDevice.sz] at *; omega)), ?_⟩ | refine ⟨rfl, _, _, c_markDevice _ _ (by first | assumption | omega | (simp only [DClient.sz, DDevice.sz] at *; omega) | (simp only [List.length_map] at *; omega) | (simp only [List.length_map, DClient.sz, DDevice.sz] at *; omega)) (by first | assumption | omega | (simp only [DClient.sz, DDevice.sz] at *; omega) | (simp only [List.length_map] at *; omega) | (simp only [List.length_map, DClient.sz, DDevice.sz] at *; omega)), ?_⟩)
         | exact trivial
         | (with_reducible rfl)
         | exact (rfl : (0 : Int) = ((0 : Nat) : Int))
         | exact w64_nat arith
         | refine bcase_T (by first | with_reducible rfl | decide) ?_
         | refine bcase_F (by first | with_reducible rfl | decide) ?_
         | refine bcase_dec (fun _ => ?_) (fun _ => ?_)
         | refine bcase_not ?_
         | refine bcase_intro (fun _ => ?_) (fun _ => ?_)
         | refine ⟨(by with_reducible rfl), ?_⟩
         | refine ⟨congrArg vi ?_, ?_⟩
         | refine ⟨congrArg vb ?_, ?_⟩
         | refine ⟨rfl, ?_⟩
         | refine ⟨(by kernel_rfl : drawOK _ = true), ?_⟩
         | refine Or.inl ?_
         | refine ⟨⟨congrArg (T.int _) ?_, rfl⟩, ?_⟩
         | refine ⟨⟨congrArg T.bool ?_, rfl⟩, ?_⟩
         | refine ⟨⟨rfl, Nat.le_of_ble_eq_true rfl⟩, ?_⟩
         | refine ⟨⟨rfl, rfl⟩, ?_⟩
         | refine ⟨⟨rfl, (by decide)⟩, ?_⟩
         | refine ⟨⟨rfl, ?_⟩, ?_⟩
         | refine ⟨Or.inr rfl, ?_⟩
         | refine ⟨Or.inl rfl, ?_⟩
         | refine ⟨⟨⟨rfl, rfl, rfl⟩, ?_⟩, ?_⟩
         | refine ⟨_, _, rfl, row_get _ _ arith, rfl, ?_⟩
         | refine ⟨Or.inr (by repeat (first | exact trivial | refine ⟨rfl, ?_⟩)), ?_⟩
         | refine ⟨(?_ : _ = ([] : List (List T))), ?_⟩
         | fail))
  all_goals (first | rfl | (simp_all; done))
end Go.Proofs.Ytmkgakabmffibaa
