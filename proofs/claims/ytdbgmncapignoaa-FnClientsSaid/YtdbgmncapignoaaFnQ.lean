/-
  Contracts: queued messages.
  Conditions: none.
-/
import Derived.Test.YtdbgmncapignoaaFnC
namespace Go.Proofs.Ytdbgmncapignoaa
set_option maxHeartbeats 4000000
set_option maxRecDepth 20000
open Go.Vm Go.RowKit
attribute [local irreducible] FnAt MutAt InAt JAt CurAt FnE CurE RegAt

theorem bigC_queue {c : DClient} {b : List UInt8} (h : bigC c) (h2 : c.Submitted.length ≤ 1048576) (hb : b.length ≤ 1099511627776) : bigC (queue c b) :=
  ⟨⟨by simp only [queue, List.length_append, List.length_cons, List.length_nil]; omega, fun x hx => by simp only [queue, List.mem_append, List.mem_singleton] at hx; rcases hx with hx | rfl; exact h.1.2 x hx; exact hb⟩, h.2⟩
theorem queueC_cases (c : DClient) (b : List UInt8) : (queueC c b = c ∧ queued c b = false) ∨ (queueC c b = queue c b ∧ queued c b = true) := by
  unfold queueC
  cases queued c b <;> simp
theorem c_sQueueMessage (c : DClient) (b : List UInt8) (h : bigC c) (h2 : c.Submitted.length ≤ 1048576) (hb : b.length ≤ 1099511627776) : FnAt Try.prog 155 [.agg (DClient.e c), .one (L eU b)] [.agg (DClient.r (queueC c b)), .one (.s (.bool (queued c b)))] := by
  have ho := bigC_queue h h2 hb
  refine fn_of Try.func155 rfl (by kernel_rfl) rfl ?_
  all_goals repeat' (first
    | (with_reducible rfl)
    | (conv => whnf
       first
         | exact trivial
         | (with_reducible rfl)
         | exact (rfl : (0 : Int) = ((0 : Nat) : Int))
         | exact w64_nat arith
         | refine bcase_T (by first | with_reducible rfl | decide) ?_
         | refine bcase_F (by first | with_reducible rfl | decide) ?_
         | refine bcase_dec (fun _ => ?_) (fun _ => ?_)
         | refine bcase_not ?_
         | refine bcase_intro (fun _ => ?_) (fun _ => ?_)
         | refine ⟨(by with_reducible rfl), ?_⟩
         | refine ⟨congrArg vi ?_, ?_⟩
         | refine ⟨congrArg vb ?_, ?_⟩
         | refine ⟨rfl, ?_⟩
         | refine ⟨(by kernel_rfl : drawOK _ = true), ?_⟩
         | refine Or.inl ?_
         | refine ⟨⟨congrArg (T.int _) ?_, rfl⟩, ?_⟩
         | refine ⟨⟨congrArg T.bool ?_, rfl⟩, ?_⟩
         | refine ⟨⟨rfl, Nat.le_of_ble_eq_true rfl⟩, ?_⟩
         | refine ⟨⟨rfl, rfl⟩, ?_⟩
         | refine ⟨⟨rfl, (by decide)⟩, ?_⟩
         | refine ⟨⟨rfl, ?_⟩, ?_⟩
         | refine ⟨Or.inr rfl, ?_⟩
         | refine ⟨Or.inl rfl, ?_⟩
         | refine ⟨⟨⟨rfl, rfl, rfl⟩, ?_⟩, ?_⟩
         | refine ⟨_, _, rfl, row_get _ _ arith, rfl, ?_⟩
         | refine ⟨Or.inr (by repeat (first | exact trivial | refine ⟨rfl, ?_⟩)), ?_⟩
         | refine ⟨(?_ : _ = ([] : List (List T))), ?_⟩
         | refine ⟨_, c_l29Copy _ h, ?_⟩
         | refine ⟨_, c_sIsValidClient _ h, ?_⟩
         | refine ⟨_, fn_args (c_sIsValidClient _ ho) (by simp [DClient.e, queue, eL]), ?_⟩
         | refine ⟨true, fun _ => scalU _, lenU _, ⟨bnd, bnd⟩, ?_⟩
         | refine ⟨⟨bnd, bnd⟩, ?_⟩
         | fail))
  all_goals (simp_all [queueC, queued, queue, eL])
end Go.Proofs.Ytdbgmncapignoaa
