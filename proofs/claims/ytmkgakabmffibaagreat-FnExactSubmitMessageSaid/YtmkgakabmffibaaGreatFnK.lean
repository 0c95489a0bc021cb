/-
  Contracts: remainders, hashes, seeds.
  Conditions: none.
-/
import Derived.Test.YtmkgakabmffibaaGreatFnA
import Derived.Lib.AppendZerosOnto
import Derived.Lib.SliceRun
namespace Go.Proofs.YtmkgakabmffibaaGreat
set_option maxHeartbeats 4000000
set_option maxRecDepth 20000
open Go.Vm Go.RowKit
attribute [local irreducible] FnAt MutAt InAt

theorem md_in {p q : Int} (h : inR q 1 1000000000000 = true) : (IntKind.i64.wrap (p.tmod q + q)).tmod q = md q p := by
  have h := inR_iff.1 h
  rw [md, if_pos h, md_run h.1 h.2]
theorem md_out {p q : Int} (h : inR q 1 1000000000000 = false) : 0 = md q p := by
  rw [md, if_neg (inR_not.1 h)]
theorem hash_go (xs : List Int) {i : Nat} (h : i < xs.length) : (IntKind.i64.wrap (IntKind.i64.wrap (IntKind.i64.wrap (hsh (xs.take i) * 1000003) + md 2147483647 xs[i]) + 13)).tmod 2147483647 = hsh (xs.take (i + 1)) := by
  have e : md 2147483647 xs[i] = xs[i] % 2147483647 := by rw [md, if_pos (by decide)]
  rw [hsh_take xs h, ← hstep_run (hsh_range _).1 (hsh_range _).2, e]
theorem flat_take {α : Type} (ls : List (List α)) {i : Nat} (h : i < ls.length) : (ls.take (i + 1)).flatten = (ls.take i).flatten ++ ls[i] := by
  rw [List.take_succ_eq_append_getElem h, List.flatten_append]
  simp
theorem flat_le {α : Type} (ls : List (List α)) (i : Nat) : (ls.take i).flatten.length ≤ ls.flatten.length := by
  conv => rhs; rw [← List.take_append_drop i ls, List.flatten_append, List.length_append]
  exact Nat.le_add_right _ _
theorem flat_len {α : Type} (ls : List (List α)) {i : Nat} (h : i < ls.length) : (ls.take i).flatten.length + ls[i].length ≤ ls.flatten.length := by
  have := flat_le ls (i + 1)
  rw [flat_take ls h, List.length_append] at this
  exact this
/-- The row of a mailbox. -/
@[irreducible] def mailRow (k r d n : Int) : Int := if inR n 1 64 && inR r 0 1000000000000 then (child (khash k [79, r, d]) 0).tmod n else -1
theorem mailRow_T {k r d n : Int} (h1 : inR n 1 64 = true) (h2 : inR r 0 1000000000000 = true) : (child (khash k [79, r, d]) 0).tmod n = mailRow k r d n := by unfold mailRow; rw [h1, h2]; rfl
theorem mailRow_F1 {k r d n : Int} (h1 : inR n 1 64 = false) : -1 = mailRow k r d n := by unfold mailRow; rw [h1]; rfl
theorem mailRow_F2 {k r d n : Int} (h1 : inR r 0 1000000000000 = false) : -1 = mailRow k r d n := by unfold mailRow; rw [h1, Bool.and_false]; rfl
end Go.Proofs.YtmkgakabmffibaaGreat
