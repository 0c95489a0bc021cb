/-
  The size of the shares of a write.
  Conditions: none.
-/
import Derived.Test.YtdbgmncapignoaaGreatFnMs
import Derived.Test.YtdbgmncapignoaaGreatFnH
namespace Go.Proofs.YtdbgmncapignoaaGreat
set_option maxHeartbeats 4000000
set_option maxRecDepth 20000
open Go.Vm Go.RowKit
attribute [local irreducible] FnAt MutAt InAt JAt CurAt

theorem szL_bound {α : Type} (f : α → Nat) (B : Nat) : ∀ (l : List α), (∀ x ∈ l, f x ≤ B) → szL f l ≤ l.length * (B + 1)
  | [], _ => by simp [szL]
  | x :: l, h => by
    have h1 := szL_bound f B l (fun y hy => h y (by simp [hy]))
    have h2 := h x (by simp)
    simp only [szL, List.length_cons, List.map_cons, List.sum_cons, Nat.add_mul] at *
    omega
def smallD (d : DDatabase) : Prop := d.Rows.length ≤ 64 ∧ ∀ x ∈ d.Rows, x.length ≤ 400
theorem smallD_sz {d : DDatabase} (h : smallD d) : d.sz ≤ 25664 := by
  have h1 := szL_bound List.length 400 d.Rows h.2
  have h2 := h.1
  simp only [DDatabase.sz]
  omega
theorem smallD_xor {a b : DDatabase} (ha : smallD a) (hb : smallD b) : smallD (xorDb a b) := by
  unfold xorDb
  split
  · refine ⟨by simp only [List.length_zipWith]; have := ha.1; omega, fun x hx => ?_⟩
    obtain ⟨i, hi, rfl⟩ := List.getElem_of_mem hx
    simp only [List.length_zipWith] at hi
    simp only [List.getElem_zipWith, xorB_len]
    have h1 := ha.2 _ (List.getElem_mem (show i < a.Rows.length by omega))
    have h2 := hb.2 _ (List.getElem_mem (show i < b.Rows.length by omega))
    omega
  · exact ha
theorem smallD_new (n : Int) : smallD (newDb n) := by
  unfold newDb
  split
  · rename_i h
    have h := inR_iff.1 h
    exact ⟨by simp only [List.length_replicate]; omega, fun x hx => by rw [(List.mem_replicate.1 hx).2]; decide⟩
  · exact ⟨by simp, by simp⟩
theorem smallD_put {d : DDatabase} (h : smallD d) (i : Int) (c : List UInt8) : smallD (putRow d i c) := by
  unfold putRow
  split
  · rename_i hk
    simp only [rowOk, Bool.and_eq_true, decide_eq_true_eq] at hk
    refine ⟨by simp only [List.length_set]; exact h.1, fun x hx => ?_⟩
    rcases List.mem_or_eq_of_mem_set hx with hx | hx
    · exact h.2 x hx
    · rw [hx, hk.2]; decide
  · exact h
theorem smallD_unit (n i : Int) (c : List UInt8) : smallD (unitW n i c) := by
  unfold unitW
  split
  · exact smallD_put (smallD_new n) i c
  · exact ⟨by simp, by simp⟩
theorem smallD_w {n : Int} (h : inR n 1 64 = true) (s : Int) : smallD (wDb n s) := by
  have h1 := inR_iff.1 h
  refine ⟨by unfold wDb; simp only [List.length_map, List.length_range]; omega, fun x hx => ?_⟩
  unfold wDb at hx
  obtain ⟨r, _, rfl⟩ := List.mem_map.1 hx
  exact wRow_len s r
theorem smallD_fold {n : Int} (h : inR n 1 64 = true) : ∀ (ss : List Int) (d : DDatabase), smallD d → smallD (ss.foldl (fun l s => xorDb l (wDb n s)) d)
  | [], _, hd => hd
  | s :: ss, _, hd => smallD_fold h ss _ (smallD_xor hd (smallD_w h s))
theorem makeW_small {n i : Int} {c : List UInt8} {ss : List Int} (hs : ss.length ≤ 1099511627776) : (makeW n i c ss).length ≤ 4 ∧ ∀ d ∈ makeW n i c ss, smallD d := by
  unfold makeW
  split
  · rename_i h
    simp only [mwOk, Bool.and_eq_true] at h
    have hn : inR n 1 64 = true := by have h1 := h.1; unfold unitOk at h1; revert h1; cases inR n 1 64 <;> simp
    have h2 := inR_iff.1 h.2
    rw [w64_ok (by omega) (by omega)] at h2
    refine ⟨by simp only [List.length_append, List.length_map, List.length_cons, List.length_nil]; omega, fun d hd => ?_⟩
    rcases List.mem_append.1 hd with hd | hd
    · obtain ⟨s, _, rfl⟩ := List.mem_map.1 hd
      exact smallD_w hn s
    · simp only [List.mem_singleton] at hd
      rw [hd]
      exact smallD_fold hn ss _ (smallD_unit n i c)
  · exact ⟨by simp, by simp⟩
theorem makeW_sz {n i : Int} {c : List UInt8} {ss : List Int} (hs : ss.length ≤ 1099511627776) : szL DDatabase.sz (makeW n i c ss) ≤ 102660 := by
  obtain ⟨h1, h2⟩ := makeW_small (n := n) (i := i) (c := c) hs
  have h3 := szL_bound DDatabase.sz 25664 (makeW n i c ss) (fun d hd => smallD_sz (h2 d hd))
  omega
theorem sharesW_sz (w : DWorld) (c : Int) (h : w.Servers.length ≤ 1099511627776) : szL DDatabase.sz (sharesW w c) ≤ 102660 := by
  unfold sharesW
  split
  · split
    · exact makeW_sz (by rw [wSeeds_len]; omega)
    · simp [szL]
  · simp [szL]
theorem wServ {w : DWorld} (h : w.sz ≤ 1048576) : w.Servers.length ≤ 1099511627776 := by
  have := szL_len DServer.sz w.Servers
  simp only [DWorld.sz] at h
  omega
end Go.Proofs.YtdbgmncapignoaaGreat
