/-
  Contracts: queued messages.
  Conditions: none.
-/
import Derived.Test.YtmaamiapipngaaaGreatFnC
namespace Go.Proofs.YtmaamiapipngaaaGreat
set_option maxHeartbeats 4000000
set_option maxRecDepth 20000
open Go.Vm Go.RowKit
attribute [local irreducible] FnAt MutAt InAt JAt CurAt FnE CurE RegAt

theorem bigC_queue {c : DClient} {b : List UInt8} (h : bigC c) (h2 : c.Submitted.length ≤ 1048576) (hb : b.length ≤ 1099511627776) : bigC (queue c b) :=
  ⟨⟨by simp only [queue, List.length_append, List.length_cons, List.length_nil]; omega, fun x hx => by simp only [queue, List.mem_append, List.mem_singleton] at hx; rcases hx with hx | rfl; exact h.1.2 x hx; exact hb⟩, h.2⟩
theorem queueC_cases (c : DClient) (b : List UInt8) : (queueC c b = c ∧ queued c b = false) ∨ (queueC c b = queue c b ∧ queued c b = true) := by
  unfold queueC
  cases queued c b <;> simp
end Go.Proofs.YtmaamiapipngaaaGreat
