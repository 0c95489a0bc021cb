/-
  Plain law: the shares that a round draws for its first server have no digest of an empty database.
  Conditions: none.
-/
import Derived.Test.YtpipfobdfcnghaaFnMw
import Derived.Test.YtpipfobdfcnghaaFnAu
namespace Go.Proofs.Ytpipfobdfcnghaa
set_option maxHeartbeats 4000000
set_option maxRecDepth 20000
open Go.Vm Go.RowKit
attribute [local irreducible] FnAt MutAt InAt JAt CurAt FnE CurE RegAt

def kA (s : Nat) : Nat := ((((11 * 1000003 + s + 13) * 1000003 + 60) * 1000003 + 13) * 1000003 + s + 13) % 2147483647
def kV (h : Nat) : Nat := (h * h + 5) % 2147483647 / 256 % 256
def rowK (k : Nat) : Nat := (((((((((((((((((((((((((((((((((((((((((((((((0 * 1000003 + kV ((k + (100 + 0) * 1000003) % 2147483647)) % 2147483647) * 1000003 + kV ((k + (100 + 1) * 1000003) % 2147483647)) % 2147483647) * 1000003 + kV ((k + (100 + 2) * 1000003) % 2147483647)) % 2147483647) * 1000003 + kV ((k + (100 + 3) * 1000003) % 2147483647)) % 2147483647) * 1000003 + kV ((k + (100 + 4) * 1000003) % 2147483647)) % 2147483647) * 1000003 + kV ((k + (100 + 5) * 1000003) % 2147483647)) % 2147483647) * 1000003 + kV ((k + (100 + 6) * 1000003) % 2147483647)) % 2147483647) * 1000003 + kV ((k + (100 + 7) * 1000003) % 2147483647)) % 2147483647) * 1000003 + kV ((k + (100 + 8) * 1000003) % 2147483647)) % 2147483647) * 1000003 + kV ((k + (100 + 9) * 1000003) % 2147483647)) % 2147483647) * 1000003 + kV ((k + (100 + 10) * 1000003) % 2147483647)) % 2147483647) * 1000003 + kV ((k + (100 + 11) * 1000003) % 2147483647)) % 2147483647) * 1000003 + kV ((k + (100 + 12) * 1000003) % 2147483647)) % 2147483647) * 1000003 + kV ((k + (100 + 13) * 1000003) % 2147483647)) % 2147483647) * 1000003 + kV ((k + (100 + 14) * 1000003) % 2147483647)) % 2147483647) * 1000003 + kV ((k + (100 + 15) * 1000003) % 2147483647)) % 2147483647) * 1000003 + kV ((k + (100 + 16) * 1000003) % 2147483647)) % 2147483647) * 1000003 + kV ((k + (100 + 17) * 1000003) % 2147483647)) % 2147483647) * 1000003 + kV ((k + (100 + 18) * 1000003) % 2147483647)) % 2147483647) * 1000003 + kV ((k + (100 + 19) * 1000003) % 2147483647)) % 2147483647) * 1000003 + kV ((k + (100 + 20) * 1000003) % 2147483647)) % 2147483647) * 1000003 + kV ((k + (100 + 21) * 1000003) % 2147483647)) % 2147483647) * 1000003 + kV ((k + (100 + 22) * 1000003) % 2147483647)) % 2147483647) * 1000003 + kV ((k + (100 + 23) * 1000003) % 2147483647)) % 2147483647
def rowN (s : Nat) : Nat := rowK (kA s)
def okR (a b c : Nat) : Bool := !Nat.beq (a % 2147483647) 0 && (!Nat.beq ((a * 1000003 ^ 25 + b) % 2147483647) 0 && !Nat.beq (((a * 1000003 ^ 25 + b) * 1000003 ^ 25 + c) % 2147483647) 0)
def okN (s : Nat) : Bool := okR (rowN s) (rowN (s + 1000)) (rowN (s + 2000))
def allB (p : Nat → Bool) : Nat → Nat → Bool
  | 0, lo => p lo
  | d + 1, lo => allB p d lo && allB p d (lo + 2 ^ d)
theorem allB_in {p : Nat → Bool} : ∀ {d lo : Nat}, allB p d lo = true → ∀ s, lo ≤ s → s < lo + 2 ^ d → p s = true
  | 0, lo, h, s, h1, h2 => by
    have e : s = lo := by simp at h2; omega
    rw [e]; exact h
  | d + 1, lo, h, s, h1, h2 => by
    simp only [allB, Bool.and_eq_true] at h
    rw [Nat.pow_succ] at h2
    by_cases h3 : s < lo + 2 ^ d
    · exact allB_in h.1 s h1 h3
    · exact allB_in h.2 s (by omega) (by omega)
theorem chunk0 : allB okN 10 0 = true := by decide +kernel
theorem chunk1 : allB okN 10 1024 = true := by decide +kernel
theorem chunk2 : allB okN 10 2048 = true := by decide +kernel
theorem chunk3 : allB okN 10 3072 = true := by decide +kernel
theorem chunk4 : allB okN 10 4096 = true := by decide +kernel
theorem chunk5 : allB okN 10 5120 = true := by decide +kernel
theorem chunk6 : allB okN 10 6144 = true := by decide +kernel
theorem chunk7 : allB okN 10 7168 = true := by decide +kernel
theorem chunk8 : allB okN 10 8192 = true := by decide +kernel
theorem chunk9 : allB okN 10 9216 = true := by decide +kernel
theorem okN_all {s : Nat} (h : s < 9999) : okN s = true := by
  by_cases h0 : s < 1024
  · exact allB_in chunk0 s (by omega) (by simpa using h0)
  by_cases h1 : s < 2048
  · exact allB_in chunk1 s (by omega) (by simpa using h1)
  by_cases h2 : s < 3072
  · exact allB_in chunk2 s (by omega) (by simpa using h2)
  by_cases h3 : s < 4096
  · exact allB_in chunk3 s (by omega) (by simpa using h3)
  by_cases h4 : s < 5120
  · exact allB_in chunk4 s (by omega) (by simpa using h4)
  by_cases h5 : s < 6144
  · exact allB_in chunk5 s (by omega) (by simpa using h5)
  by_cases h6 : s < 7168
  · exact allB_in chunk6 s (by omega) (by simpa using h6)
  by_cases h7 : s < 8192
  · exact allB_in chunk7 s (by omega) (by simpa using h7)
  by_cases h8 : s < 9216
  · exact allB_in chunk8 s (by omega) (by simpa using h8)
  by_cases h9 : s < 10240
  · exact allB_in chunk9 s (by omega) (by simpa using h9)
  omega
end Go.Proofs.Ytpipfobdfcnghaa
