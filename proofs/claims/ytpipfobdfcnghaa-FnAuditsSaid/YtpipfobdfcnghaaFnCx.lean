/-
  Plain law: the shares that a round draws for its first server have no digest (continued) of an empty database.
  Conditions: none.
-/
import Derived.Test.YtpipfobdfcnghaaFnCc
namespace Go.Proofs.Ytpipfobdfcnghaa
set_option maxHeartbeats 4000000
set_option maxRecDepth 20000
open Go.Vm Go.RowKit
attribute [local irreducible] FnAt MutAt InAt JAt CurAt FnE CurE RegAt

/-- A list of numbers as one number. -/
def lin (l : List Int) : Int := l.foldl (fun a x => a * 1000003 + x) 0
theorem lin_from : ∀ (l : List Int) (a : Int), l.foldl (fun a x => a * 1000003 + x) a = a * 1000003 ^ l.length + lin l
  | [], a => by simp [lin]
  | x :: r, a => by
    unfold lin
    simp only [List.foldl_cons, List.length_cons]
    rw [lin_from r (a * 1000003 + x), lin_from r (0 * 1000003 + x), Int.pow_succ]
    generalize (1000003 : Int) ^ r.length = K
    grind
theorem lin_cons (x : Int) (l : List Int) : lin (x :: l) = x * 1000003 ^ l.length + lin l := by
  show l.foldl (fun a x => a * 1000003 + x) (0 * 1000003 + x) = _
  rw [lin_from]; grind
theorem lin_append (a b : List Int) : lin (a ++ b) = lin a * 1000003 ^ b.length + lin b := by
  show (a ++ b).foldl (fun a x => a * 1000003 + x) 0 = _
  rw [List.foldl_append, lin_from]; rfl
theorem lin_zero : ∀ n : Nat, lin (List.replicate n 0) = 0
  | 0 => rfl
  | n + 1 => by rw [List.replicate_succ, lin_cons, lin_zero n]; simp
/-- Two runs of the hash differ by what their numbers differ. -/
theorem fold_lin : ∀ (l l' : List Int) (h h' : Int), l.length = l'.length → ∃ t, l.foldl hstep h - l'.foldl hstep h' = (h - h') * 1000003 ^ l.length + (lin l - lin l') + 2147483647 * t
  | [], [], h, h', _ => ⟨0, by simp [lin]⟩
  | x :: r, x' :: r', h, h', hl => by
    have hl' : r.length = r'.length := by simpa using hl
    obtain ⟨t, ht⟩ := fold_lin r r' (hstep h x) (hstep h' x') hl'
    have e1 : hstep h x = h * 1000003 + (x - 2147483647 * (x / 2147483647)) + 13 - 2147483647 * ((h * 1000003 + x % 2147483647 + 13) / 2147483647) := by
      unfold hstep; rw [Int.emod_def (h * 1000003 + x % 2147483647 + 13), Int.emod_def x]
    have e2 : hstep h' x' = h' * 1000003 + (x' - 2147483647 * (x' / 2147483647)) + 13 - 2147483647 * ((h' * 1000003 + x' % 2147483647 + 13) / 2147483647) := by
      unfold hstep; rw [Int.emod_def (h' * 1000003 + x' % 2147483647 + 13), Int.emod_def x']
    generalize (h * 1000003 + x % 2147483647 + 13) / 2147483647 = q1 at e1
    generalize (h' * 1000003 + x' % 2147483647 + 13) / 2147483647 = q2 at e2
    generalize x / 2147483647 = u1 at e1
    generalize x' / 2147483647 = u2 at e2
    refine ⟨t - (q1 - q2 + (u1 - u2)) * 1000003 ^ r.length, ?_⟩
    simp only [List.foldl_cons, List.length_cons, Int.pow_succ]
    rw [ht, e1, e2, lin_cons, lin_cons, ← hl']
    generalize (1000003 : Int) ^ r.length = K
    grind
  | [], _ :: _, _, _, hl => by simp at hl
  | _ :: _, [], _, _, hl => by simp at hl
theorem hsh_lin {l l' : List Int} (hl : l.length = l'.length) (h : hsh l = hsh l') : ∃ t, lin l - lin l' = 2147483647 * t := by
  unfold hsh at h
  obtain ⟨t, ht⟩ := fold_lin l l' 11 11 hl
  rw [h, Int.sub_self, Int.sub_self, Int.zero_mul] at ht
  exact ⟨-t, by omega⟩
def foldN (vs : List Nat) : Nat := vs.foldl (fun a v => (a * 1000003 + v) % 2147483647) 0
theorem foldN_from : ∀ (vs : List Nat) (a : Nat) (b : Int), (∃ t, b = a + 2147483647 * t) → ∃ t, (vs.map (fun v : Nat => (v : Int))).foldl (fun a x => a * 1000003 + x) b = ((vs.foldl (fun a v => (a * 1000003 + v) % 2147483647) a : Nat) : Int) + 2147483647 * t
  | [], a, b, h => h
  | v :: vs, a, b, ⟨t, h⟩ => by
    simp only [List.map_cons, List.foldl_cons]
    refine foldN_from vs _ _ ⟨t * 1000003 + ((a : Int) * 1000003 + v) / 2147483647, ?_⟩
    rw [h]
    have e : (((a * 1000003 + v) % 2147483647 : Nat) : Int) = ((a : Int) * 1000003 + v) - 2147483647 * (((a : Int) * 1000003 + v) / 2147483647) := by
      rw [← Int.emod_def]; simp
    rw [e]
    generalize ((a : Int) * 1000003 + v) / 2147483647 = q
    grind
theorem foldN_lin (vs : List Nat) : ∃ t, lin (vs.map fun v : Nat => (v : Int)) = (foldN vs : Int) + 2147483647 * t := foldN_from vs 0 0 ⟨0, by simp⟩
theorem fold24 (g : Nat → Nat → Nat) (a v0 v1 v2 v3 v4 v5 v6 v7 v8 v9 v10 v11 v12 v13 v14 v15 v16 v17 v18 v19 v20 v21 v22 v23 : Nat) : [v0, v1, v2, v3, v4, v5, v6, v7, v8, v9, v10, v11, v12, v13, v14, v15, v16, v17, v18, v19, v20, v21, v22, v23].foldl g a = g (g (g (g (g (g (g (g (g (g (g (g (g (g (g (g (g (g (g (g (g (g (g (g a v0) v1) v2) v3) v4) v5) v6) v7) v8) v9) v10) v11) v12) v13) v14) v15) v16) v17) v18) v19) v20) v21) v22) v23 := rfl
theorem range24 (f : Nat → Nat) : (List.range 24).map f = [f 0, f 1, f 2, f 3, f 4, f 5, f 6, f 7, f 8, f 9, f 10, f 11, f 12, f 13, f 14, f 15, f 16, f 17, f 18, f 19, f 20, f 21, f 22, f 23] := rfl
theorem rowK_fold (k : Nat) : rowK k = foldN ((List.range 24).map fun j => kV ((k + (100 + j) * 1000003) % 2147483647)) := by
  rw [range24]
  unfold foldN rowK
  rw [fold24]
theorem khash_kA {s : Nat} (hs : s < 2147483647) {j : Nat} (hj : j < 1000) : khash (s : Int) [47, 100 + (j : Int)] = (((kA s + (100 + j) * 1000003) % 2147483647 : Nat) : Int) := by
  unfold khash hsh kA hstep
  simp only [List.cons_append, List.nil_append, List.foldl_cons, List.foldl_nil]
  omega
theorem strm_byte {s : Nat} (hs : s < 2147483647) {j : Nat} (hj : j < 24) : ((Vm.byteOf (child (s : Int) (100 + (j : Int)) / 256)).toNat : Int) = (kV ((kA s + (100 + j) * 1000003) % 2147483647) : Int) := by
  rw [byteOf_int]
  unfold child kV
  rw [khash_kA hs (by omega)]
  simp
theorem strm_lin {s : Nat} (hs : s < 2147483647) : ∃ t, lin ((strm (s : Int) 24).map fun b => (b.toNat : Int)) = (rowN s : Int) + 2147483647 * t := by
  have e : (strm (s : Int) 24).map (fun b => (b.toNat : Int)) = ((List.range 24).map fun j => kV ((kA s + (100 + j) * 1000003) % 2147483647)).map fun v : Nat => (v : Int) := by
    unfold strm
    rw [List.map_map, List.map_map]
    refine List.map_congr_left fun j hj => ?_
    exact strm_byte hs (by simpa using hj)
  rw [e]
  unfold rowN
  rw [rowK_fold]
  exact foldN_lin _
theorem wRow_24' (s : Int) (r : Nat) : (wRow s r).length = 24 := by unfold wRow; rw [stream_T (by decide), strm_len]; rfl
theorem wRow_eq {sd : Int} (h0 : 0 ≤ sd) (h1 : sd < 9999) {r : Nat} (hr : r < 3) : wRow sd r = strm ((sd.toNat + 1000 * r : Nat) : Int) 24 := by
  unfold wRow
  rw [w64_ok (n := 1000 * (r : Int)) (by omega) (by omega), w64_ok (by omega) (by omega), stream_T (by decide)]
  congr 1
  omega
def byI (b : List UInt8) : List Int := b.map fun x => (x.toNat : Int)
theorem bI_eq {b : List UInt8} (h : b.length = 24) : bI b = 24 :: byI b := by unfold bI byI; rw [h]; rfl
theorem byI_len {b : List UInt8} (h : b.length = 24) : (byI b).length = 24 := by unfold byI; rw [List.length_map, h]
theorem byI_zero : byI zero24 = List.replicate 24 0 := by unfold byI zero24; rw [List.map_replicate]; rfl
theorem zero24_len' : zero24.length = 24 := List.length_replicate
/-- What is known of a row: its numbers as one, up to the modulus. -/
theorem row_lin {sd : Int} (h0 : 0 ≤ sd) (h1 : sd < 9999) {r : Nat} (hr : r < 3) : ∃ t, lin (byI (wRow sd r)) = (rowN (sd.toNat + 1000 * r) : Int) + 2147483647 * t := by
  rw [wRow_eq h0 h1 hr]
  exact strm_lin (by omega)
theorem okN_at {sd : Int} (h0 : 0 ≤ sd) (h1 : sd < 9999) : ¬ rowN sd.toNat % 2147483647 = 0 ∧ ¬ (rowN sd.toNat * 1000003 ^ 25 + rowN (sd.toNat + 1000)) % 2147483647 = 0 ∧ ¬ ((rowN sd.toNat * 1000003 ^ 25 + rowN (sd.toNat + 1000)) * 1000003 ^ 25 + rowN (sd.toNat + 2000)) % 2147483647 = 0 := by
  have h := okN_all (s := sd.toNat) (by omega)
  unfold okN okR at h
  simp only [Bool.and_eq_true, Bool.not_eq_true'] at h
  exact ⟨Nat.ne_of_beq_eq_false h.1, Nat.ne_of_beq_eq_false h.2.1, Nat.ne_of_beq_eq_false h.2.2⟩
theorem dvd_no {a : Nat} {x : Int} (ha : ¬ a % 2147483647 = 0) (h : ∃ t, x = (a : Int) + 2147483647 * t) : ¬ ∃ t, x = 2147483647 * t := by
  obtain ⟨u, hu⟩ := h
  rintro ⟨t, ht⟩
  omega
theorem lin_two {a b : Nat} {x y : Int} (hx : ∃ t, x = (a : Int) + 2147483647 * t) (hy : ∃ t, y = (b : Int) + 2147483647 * t) : ∃ t, x * 1000003 ^ 25 + y = ((a * 1000003 ^ 25 + b : Nat) : Int) + 2147483647 * t := by
  obtain ⟨u, hu⟩ := hx
  obtain ⟨v, hv⟩ := hy
  refine ⟨u * 1000003 ^ 25 + v, ?_⟩
  rw [hu, hv, Int.natCast_add, Int.natCast_mul, Int.natCast_pow]
  have e : ((1000003 : Nat) : Int) = 1000003 := rfl
  rw [e]
  generalize (1000003 : Int) ^ 25 = K
  grind
theorem dig_apart {R sd : Int} (hR : 1 ≤ R ∧ R ≤ 3) (h0 : 0 ≤ sd) (h1 : sd < 9999) : dbDig (wDb R sd) ≠ dbDig (newDb R) := by
  obtain ⟨k1, k2, k3⟩ := okN_at h0 h1
  have r0 := row_lin h0 h1 (r := 0) (by decide)
  have r1 := row_lin h0 h1 (r := 1) (by decide)
  have r2 := row_lin h0 h1 (r := 2) (by decide)
  have l0 := byI_len (wRow_24' sd 0)
  have l1 := byI_len (wRow_24' sd 1)
  have l2 := byI_len (wRow_24' sd 2)
  have lz : (List.replicate 24 (0 : Int)).length = 24 := List.length_replicate
  have z := lin_zero 24
  have e0 := bI_eq (wRow_24' sd 0)
  have e1 := bI_eq (wRow_24' sd 1)
  have e2 := bI_eq (wRow_24' sd 2)
  have ez : bI zero24 = 24 :: List.replicate 24 0 := by rw [bI_eq zero24_len', byI_zero]
  intro h
  have hR' : R = 1 ∨ R = 2 ∨ R = 3 := by omega
  rcases hR' with rfl | rfl | rfl
  · have a1 : dbIn (wDb 1 sd).Rows (wDb 1 sd).Rows.length = 1 :: (24 :: byI (wRow sd 0)) := by
      show (1 : Int) :: ([bI (wRow sd 0)].flatten) = _
      rw [e0]; simp
    have a2 : dbIn (newDb 1).Rows (newDb 1).Rows.length = 1 :: (24 :: List.replicate 24 0) := by
      show (1 : Int) :: ([bI zero24].flatten) = _
      rw [ez]; simp
    unfold dbDig at h
    rw [a1, a2] at h
    obtain ⟨t, ht⟩ := hsh_lin (by simp only [List.length_cons, l0, lz]) h
    simp only [lin_cons, List.length_cons, l0, lz, z] at ht
    exact dvd_no k1 r0 ⟨t, by omega⟩
  · have a1 : dbIn (wDb 2 sd).Rows (wDb 2 sd).Rows.length = 2 :: ((24 :: byI (wRow sd 0)) ++ (24 :: byI (wRow sd 1))) := by
      show (2 : Int) :: ([bI (wRow sd 0), bI (wRow sd 1)].flatten) = _
      rw [e0, e1]; simp
    have a2 : dbIn (newDb 2).Rows (newDb 2).Rows.length = 2 :: ((24 :: List.replicate 24 0) ++ (24 :: List.replicate 24 0)) := by
      show (2 : Int) :: ([bI zero24, bI zero24].flatten) = _
      rw [ez]; simp
    unfold dbDig at h
    rw [a1, a2] at h
    obtain ⟨t, ht⟩ := hsh_lin (by simp only [List.length_cons, List.length_append, l0, l1, lz]) h
    simp only [lin_cons, lin_append, List.length_cons, List.length_append, l0, l1, lz, z] at ht
    refine dvd_no k2 (lin_two r0 r1) ⟨t, ?_⟩
    generalize (1000003 : Int) ^ (24 + 1) = K25 at ht ⊢
    grind
  · have a1 : dbIn (wDb 3 sd).Rows (wDb 3 sd).Rows.length = 3 :: (((24 :: byI (wRow sd 0)) ++ (24 :: byI (wRow sd 1))) ++ (24 :: byI (wRow sd 2))) := by
      show (3 : Int) :: ([bI (wRow sd 0), bI (wRow sd 1), bI (wRow sd 2)].flatten) = _
      rw [e0, e1, e2]; simp
    have a2 : dbIn (newDb 3).Rows (newDb 3).Rows.length = 3 :: (((24 :: List.replicate 24 0) ++ (24 :: List.replicate 24 0)) ++ (24 :: List.replicate 24 0)) := by
      show (3 : Int) :: ([bI zero24, bI zero24, bI zero24].flatten) = _
      rw [ez]; simp
    unfold dbDig at h
    rw [a1, a2] at h
    obtain ⟨t, ht⟩ := hsh_lin (by simp only [List.length_cons, List.length_append, l0, l1, l2, lz]) h
    simp only [lin_cons, lin_append, List.length_cons, List.length_append, l0, l1, l2, lz, z] at ht
    refine dvd_no k3 (lin_two (lin_two r0 r1) r2) ⟨t, ?_⟩
    generalize (1000003 : Int) ^ (24 + 1) = K25 at ht ⊢
    grind
attribute [local irreducible] dbDig
theorem hstep_inj {g x y : Int} (hx : 0 ≤ x ∧ x < 2147483647) (hy : 0 ≤ y ∧ y < 2147483647) (h : hstep g x = hstep g y) : x = y := by
  unfold hstep at h
  generalize g * 1000003 = G at h
  omega
theorem share_apart {c R sd : Int} (hR : 1 ≤ R ∧ R ≤ 3) (h0 : 0 ≤ sd) (h1 : sd < 9999) : shareDig c 0 (wDb R sd) ≠ shareDig c 0 (newDb R) := by
  intro h
  have q1 : 0 ≤ dbDig (wDb R sd) ∧ dbDig (wDb R sd) < 2147483647 := by unfold dbDig; exact hsh_range _
  have q2 : 0 ≤ dbDig (newDb R) ∧ dbDig (newDb R) < 2147483647 := by unfold dbDig; exact hsh_range _
  refine dig_apart hR h0 h1 (hstep_inj (g := hstep (hstep (hstep 11 179) c) 0) q1 q2 ?_)
  unfold shareDig hsh at h
  exact h
end Go.Proofs.Ytpipfobdfcnghaa
