/-
  Contracts: opened cells; what a client reads.
  Conditions: none.
-/
import Derived.Test.YtdbgmncapignoaaFnU
namespace Go.Proofs.Ytdbgmncapignoaa
set_option maxHeartbeats 4000000
set_option maxRecDepth 20000
open Go.Vm Go.RowKit
attribute [local irreducible] FnAt MutAt InAt JAt CurAt FnE CurE RegAt

theorem or_join {A B k : Nat} (hA : A < 2 ^ k) (hs : 2 ^ k * B + A < 9223372036854775808) : bits .or .i64 (A : Int) ((2 ^ k * B : Nat) : Int) = ((2 ^ k * B + A : Nat) : Int) := by
  have e : A ||| 2 ^ k * B = 2 ^ k * B + A := by rw [Nat.or_comm, Nat.two_pow_add_eq_or_of_lt hA]
  show IntKind.i64.wrap ((BitVec.ofInt 64 (A : Int) ||| BitVec.ofInt 64 ((2 ^ k * B : Nat) : Int)).toNat : Int) = _
  have h1 : (BitVec.ofInt 64 (A : Int)).toNat = A := by
    rw [BitVec.toNat_ofInt]; omega
  have h2 : (BitVec.ofInt 64 ((2 ^ k * B : Nat) : Int)).toNat = 2 ^ k * B := by
    rw [BitVec.toNat_ofInt]; omega
  rw [BitVec.toNat_or, h1, h2, e]
  exact w64_ok (by omega) (by omega)
def join4 (a b c d : UInt8) : Int := (a.toNat : Int) + 256 * b.toNat + 65536 * c.toNat + 16777216 * d.toNat
theorem join4_run (a b c d : UInt8) : bits .or .i64 (bits .or .i64 (bits .or .i64 (IntKind.i64.wrap (a.toNat : Int)) (IntKind.i64.wrap (IntKind.i64.wrap (b.toNat : Int) * 2 ^ (min (8 : Int).toNat IntKind.i64.bits)))) (IntKind.i64.wrap (IntKind.i64.wrap (c.toNat : Int) * 2 ^ (min (16 : Int).toNat IntKind.i64.bits)))) (IntKind.i64.wrap (IntKind.i64.wrap (d.toNat : Int) * 2 ^ (min (24 : Int).toNat IntKind.i64.bits))) = join4 a b c d := by
  have ha := a.toNat_lt; have hb := b.toNat_lt; have hc := c.toNat_lt; have hd := d.toNat_lt
  have e1 : IntKind.i64.wrap (IntKind.i64.wrap (b.toNat : Int) * 2 ^ (min (8 : Int).toNat IntKind.i64.bits)) = ((2 ^ 8 * b.toNat : Nat) : Int) := by
    show IntKind.i64.wrap (IntKind.i64.wrap (b.toNat : Int) * 256) = _
    rw [wrap_byte, w64_ok (by omega) (by omega)]; omega
  have e2 : IntKind.i64.wrap (IntKind.i64.wrap (c.toNat : Int) * 2 ^ (min (16 : Int).toNat IntKind.i64.bits)) = ((2 ^ 16 * c.toNat : Nat) : Int) := by
    show IntKind.i64.wrap (IntKind.i64.wrap (c.toNat : Int) * 65536) = _
    rw [wrap_byte, w64_ok (by omega) (by omega)]; omega
  have e3 : IntKind.i64.wrap (IntKind.i64.wrap (d.toNat : Int) * 2 ^ (min (24 : Int).toNat IntKind.i64.bits)) = ((2 ^ 24 * d.toNat : Nat) : Int) := by
    show IntKind.i64.wrap (IntKind.i64.wrap (d.toNat : Int) * 16777216) = _
    rw [wrap_byte, w64_ok (by omega) (by omega)]; omega
  rw [e1, e2, e3, wrap_byte, or_join (by omega) (by omega), or_join (by omega) (by omega), or_join (by omega) (by omega)]
  unfold join4
  omega
theorem drop20 {b : List UInt8} (h : b.length = 24) : b.drop 20 = [b[20], b[21], b[22], b[23]] := by
  apply List.ext_getElem
  · simp [h]
  · intro i h1 h2
    have h3 : i < 4 := by simpa using h2
    rw [List.getElem_drop]
    rcases i with _ | _ | _ | _ | i
    · rfl
    · rfl
    · rfl
    · rfl
    · omega
theorem check_eq {b : List UInt8} (h : b.length = 24) (k c : Int) (d : List UInt8) : (b.drop 20 == bytes4 (cellCheck k c d)) = decide (join4 b[20] b[21] b[22] b[23] = cellCheck k c d) := by
  have := cellCheck_range k c d
  rw [drop20 h, bytes4_tell this.1 (by omega)]
  rfl
attribute [local irreducible] bytes4 Vm.byteOf join4 bits cellKey
def openHead (k c : Int) (b : List UInt8) : Bool := inR k 1 2147483646 && inR c 0 1000000000000 && decide (b.length = 24) && (b.drop 20 == bytes4 (cellCheck k c (b.take 20)))
def openB (k c : Int) (b : List UInt8) : List UInt8 := decB (cellKey k c) (b.take 20)
def openOk (k c : Int) (b : List UInt8) : Bool := openHead k c b && decide (((openB k c b).getD 0 0).toNat ≤ 3) && decide (((openB k c b).getD 1 0).toNat ≤ 14)
def openCell (k c : Int) (b : List UInt8) : DPlain := if openOk k c b then ⟨((openB k c b).getD 0 0).toNat, ((openB k c b).drop 2).take ((openB k c b).getD 1 0).toNat⟩ else ⟨0, []⟩
theorem openB_len {k c : Int} {b : List UInt8} (h : b.length = 24) : (openB k c b).length = 20 := by unfold openB; rw [decB_len, List.length_take]; omega
theorem openCell_len (k c : Int) (b : List UInt8) : (openCell k c b).Body.length ≤ 14 := by
  unfold openCell
  split
  · next h =>
    simp only [openOk, Bool.and_eq_true, decide_eq_true_eq] at h
    simp only [List.length_take]
    omega
  · exact Nat.zero_le _
theorem open_take (B : List UInt8) (n : Nat) : ((B.map eU).take (n + 2)).drop 2 = ((B.drop 2).take n).map eU := by
  rw [List.drop_take, ← List.map_drop, ← List.map_take]; rfl
theorem c_OpenCell (k c : Int) (b : List UInt8) (hb : b.length ≤ 1099511627776) : FnAt Try.prog 49 [.one (I k), .one (I c), .one (L eU b)] [.agg (DPlain.r (openCell k c b)), .one (.s (.bool (openOk k c b)))] := by
  have hm : (b.map eU).length = b.length := List.length_map eU
  have fin : ∀ h : openHead k c b = false, openOk k c b = false ∧ openCell k c b = ⟨0, []⟩ := fun h => by
    have e : openOk k c b = false := by unfold openOk; rw [h]; rfl
    exact ⟨e, by unfold openCell; rw [e]; rfl⟩
  cases h1 : inR k 1 2147483646 with
  | false =>
    obtain ⟨e1, e2⟩ := fin (by unfold openHead; rw [h1]; rfl)
    rw [e1, e2]
    refine fn_of Try.func49 rfl (by kernel_rfl) rfl ?_
    all_goals repeat' (first
      | (with_reducible rfl)
      | (conv => whnf
         first
           | refine ⟨_, c_IsValidKey _, ?_⟩
           | refine bcase_T (by rw [h1]; rfl) ?_
           | exact trivial
           | (with_reducible rfl)
           | exact (rfl : (0 : Int) = ((0 : Nat) : Int))
           | exact w64_nat arith
           | refine bcase_T (by first | with_reducible rfl | decide) ?_
           | refine bcase_F (by first | with_reducible rfl | decide) ?_
           | refine bcase_dec (fun _ => ?_) (fun _ => ?_)
           | refine bcase_not ?_
           | refine bcase_intro (fun _ => ?_) (fun _ => ?_)
           | refine ⟨(by with_reducible rfl), ?_⟩
           | refine ⟨congrArg vi ?_, ?_⟩
           | refine ⟨congrArg vb ?_, ?_⟩
           | refine ⟨rfl, ?_⟩
           | refine ⟨(by kernel_rfl : drawOK _ = true), ?_⟩
           | refine Or.inl ?_
           | refine ⟨⟨congrArg (T.int _) ?_, rfl⟩, ?_⟩
           | refine ⟨⟨congrArg T.bool ?_, rfl⟩, ?_⟩
           | refine ⟨⟨rfl, Nat.le_of_ble_eq_true rfl⟩, ?_⟩
           | refine ⟨⟨rfl, rfl⟩, ?_⟩
           | refine ⟨⟨rfl, (by decide)⟩, ?_⟩
           | refine ⟨⟨rfl, ?_⟩, ?_⟩
           | refine ⟨Or.inr rfl, ?_⟩
           | refine ⟨Or.inl rfl, ?_⟩
           | refine ⟨⟨⟨rfl, rfl, rfl⟩, ?_⟩, ?_⟩
           | refine ⟨_, _, rfl, row_get _ _ arith, rfl, ?_⟩
           | refine ⟨Or.inr (by repeat (first | exact trivial | refine ⟨rfl, ?_⟩)), ?_⟩
           | refine ⟨(?_ : _ = ([] : List (List T))), ?_⟩
           | fail))
    all_goals rfl
  | true =>
  cases h2 : inR c 0 1000000000000 with
  | false =>
    obtain ⟨e1, e2⟩ := fin (by unfold openHead; rw [h1, h2]; rfl)
    rw [e1, e2]
    refine fn_of Try.func49 rfl (by kernel_rfl) rfl ?_
    all_goals repeat' (first
      | (with_reducible rfl)
      | (conv => whnf
         first
           | refine ⟨_, c_IsValidKey _, ?_⟩
           | refine ⟨_, c_InRange _ _ _, ?_⟩
           | refine bcase_F (by rw [h1]; rfl) ?_
           | refine bcase_T (by rw [h2]; rfl) ?_
           | exact trivial
           | (with_reducible rfl)
           | exact (rfl : (0 : Int) = ((0 : Nat) : Int))
           | exact w64_nat arith
           | refine bcase_T (by first | with_reducible rfl | decide) ?_
           | refine bcase_F (by first | with_reducible rfl | decide) ?_
           | refine bcase_dec (fun _ => ?_) (fun _ => ?_)
           | refine bcase_not ?_
           | refine bcase_intro (fun _ => ?_) (fun _ => ?_)
           | refine ⟨(by with_reducible rfl), ?_⟩
           | refine ⟨congrArg vi ?_, ?_⟩
           | refine ⟨congrArg vb ?_, ?_⟩
           | refine ⟨rfl, ?_⟩
           | refine ⟨(by kernel_rfl : drawOK _ = true), ?_⟩
           | refine Or.inl ?_
           | refine ⟨⟨congrArg (T.int _) ?_, rfl⟩, ?_⟩
           | refine ⟨⟨congrArg T.bool ?_, rfl⟩, ?_⟩
           | refine ⟨⟨rfl, Nat.le_of_ble_eq_true rfl⟩, ?_⟩
           | refine ⟨⟨rfl, rfl⟩, ?_⟩
           | refine ⟨⟨rfl, (by decide)⟩, ?_⟩
           | refine ⟨⟨rfl, ?_⟩, ?_⟩
           | refine ⟨Or.inr rfl, ?_⟩
           | refine ⟨Or.inl rfl, ?_⟩
           | refine ⟨⟨⟨rfl, rfl, rfl⟩, ?_⟩, ?_⟩
           | refine ⟨_, _, rfl, row_get _ _ arith, rfl, ?_⟩
           | refine ⟨Or.inr (by repeat (first | exact trivial | refine ⟨rfl, ?_⟩)), ?_⟩
           | refine ⟨(?_ : _ = ([] : List (List T))), ?_⟩
           | fail))
    all_goals rfl
  | true =>
  by_cases hl : b.length = 24
  case neg =>
    obtain ⟨e1, e2⟩ := fin (by unfold openHead; rw [decide_eq_false hl, Bool.and_false]; rfl)
    rw [e1, e2]
    refine fn_of Try.func49 rfl (by kernel_rfl) rfl ?_
    all_goals repeat' (first
      | (with_reducible rfl)
      | (conv => whnf
         first
           | refine ⟨_, c_IsValidKey _, ?_⟩
           | refine ⟨_, c_InRange _ _ _, ?_⟩
           | refine bcase_F (by rw [h1]; rfl) ?_
           | refine bcase_F (by rw [h2]; rfl) ?_
           | refine bcase_T (by first | (rw [bne_iff_ne]; omega) | (rw [decide_eq_true_eq]; omega)) ?_
           | exact trivial
           | (with_reducible rfl)
           | exact (rfl : (0 : Int) = ((0 : Nat) : Int))
           | exact w64_nat arith
           | refine bcase_T (by first | with_reducible rfl | decide) ?_
           | refine bcase_F (by first | with_reducible rfl | decide) ?_
           | refine bcase_dec (fun _ => ?_) (fun _ => ?_)
           | refine bcase_not ?_
           | refine bcase_intro (fun _ => ?_) (fun _ => ?_)
           | refine ⟨(by with_reducible rfl), ?_⟩
           | refine ⟨congrArg vi ?_, ?_⟩
           | refine ⟨congrArg vb ?_, ?_⟩
           | refine ⟨rfl, ?_⟩
           | refine ⟨(by kernel_rfl : drawOK _ = true), ?_⟩
           | refine Or.inl ?_
           | refine ⟨⟨congrArg (T.int _) ?_, rfl⟩, ?_⟩
           | refine ⟨⟨congrArg T.bool ?_, rfl⟩, ?_⟩
           | refine ⟨⟨rfl, Nat.le_of_ble_eq_true rfl⟩, ?_⟩
           | refine ⟨⟨rfl, rfl⟩, ?_⟩
           | refine ⟨⟨rfl, (by decide)⟩, ?_⟩
           | refine ⟨⟨rfl, ?_⟩, ?_⟩
           | refine ⟨Or.inr rfl, ?_⟩
           | refine ⟨Or.inl rfl, ?_⟩
           | refine ⟨⟨⟨rfl, rfl, rfl⟩, ?_⟩, ?_⟩
           | refine ⟨_, _, rfl, row_get _ _ arith, rfl, ?_⟩
           | refine ⟨Or.inr (by repeat (first | exact trivial | refine ⟨rfl, ?_⟩)), ?_⟩
           | refine ⟨(?_ : _ = ([] : List (List T))), ?_⟩
           | fail))
    all_goals rfl
  cases h4 : (b.drop 20 == bytes4 (cellCheck k c (b.take 20))) with
  | false =>
    obtain ⟨e1, e2⟩ := fin (by unfold openHead; rw [h4, Bool.and_false])
    rw [e1, e2]
    refine fn_of Try.func49 rfl (by kernel_rfl) rfl ?_
    all_goals repeat' (first
      | (with_reducible rfl)
      | (conv => whnf
         first
           | refine ⟨_, c_IsValidKey _, ?_⟩
           | refine ⟨_, c_InRange _ _ _, ?_⟩
           | refine bcase_F (by rw [h1]; rfl) ?_
           | refine bcase_F (by rw [h2]; rfl) ?_
           | refine bcase_F (by first | (refine bne_eq_false_iff_eq.2 ?_; omega) | (rw [decide_eq_false_iff_not]; omega)) ?_
           | refine ⟨20, (b.map eU).length, rfl, rfl, ⟨(by omega), Nat.le_refl _⟩, fun r hr => lenU _ r hr, ?_⟩
           | refine ⟨0, 20, rfl, rfl, ⟨Nat.zero_le _, (by omega)⟩, fun r hr => lenU _ r hr, ?_⟩
           | refine ⟨_, fn_args (c_checkBytes k c (b.take 20) (by rw [List.length_take]; omega)) (by rw [L, List.map_take]; rfl), ?_⟩
           | refine ⟨_, fn_args (c_Equal8 (b.drop 20) (bytes4 (cellCheck k c (b.take 20))) (by rw [List.length_drop]; omega)) (by rw [L, List.map_drop, List.take_length]; rfl), ?_⟩
           | refine bcase_T (by rw [h4]; rfl) ?_
           | exact trivial
           | (with_reducible rfl)
           | exact (rfl : (0 : Int) = ((0 : Nat) : Int))
           | exact w64_nat arith
           | refine bcase_T (by first | with_reducible rfl | decide) ?_
           | refine bcase_F (by first | with_reducible rfl | decide) ?_
           | refine bcase_dec (fun _ => ?_) (fun _ => ?_)
           | refine bcase_not ?_
           | refine bcase_intro (fun _ => ?_) (fun _ => ?_)
           | refine ⟨(by with_reducible rfl), ?_⟩
           | refine ⟨congrArg vi ?_, ?_⟩
           | refine ⟨congrArg vb ?_, ?_⟩
           | refine ⟨rfl, ?_⟩
           | refine ⟨(by kernel_rfl : drawOK _ = true), ?_⟩
           | refine Or.inl ?_
           | refine ⟨⟨congrArg (T.int _) ?_, rfl⟩, ?_⟩
           | refine ⟨⟨congrArg T.bool ?_, rfl⟩, ?_⟩
           | refine ⟨⟨rfl, Nat.le_of_ble_eq_true rfl⟩, ?_⟩
           | refine ⟨⟨rfl, rfl⟩, ?_⟩
           | refine ⟨⟨rfl, (by decide)⟩, ?_⟩
           | refine ⟨⟨rfl, ?_⟩, ?_⟩
           | refine ⟨Or.inr rfl, ?_⟩
           | refine ⟨Or.inl rfl, ?_⟩
           | refine ⟨⟨⟨rfl, rfl, rfl⟩, ?_⟩, ?_⟩
           | refine ⟨_, _, rfl, row_get _ _ arith, rfl, ?_⟩
           | refine ⟨Or.inr (by repeat (first | exact trivial | refine ⟨rfl, ?_⟩)), ?_⟩
           | refine ⟨(?_ : _ = ([] : List (List T))), ?_⟩
           | fail))
    all_goals rfl
  | true =>
  have hh : openHead k c b = true := by unfold openHead; rw [h1, h2, decide_eq_true hl, h4]; rfl
  have hB0 := openB_len (k := k) (c := c) hl
  have hd : decB (cellKey k c) (b.take 20) = openB k c b := rfl
  have hv : openOk k c b = (decide (((openB k c b).getD 0 0).toNat ≤ 3) && decide (((openB k c b).getD 1 0).toNat ≤ 14)) := by unfold openOk; rw [hh, Bool.true_and]
  have hw : openCell k c b = if openOk k c b then ⟨((openB k c b).getD 0 0).toNat, ((openB k c b).drop 2).take ((openB k c b).getD 1 0).toNat⟩ else ⟨0, []⟩ := rfl
  have hf := c_Decrypt (cellKey k c) (b.take 20) (by rw [List.length_take]; omega)
  rw [hd] at hf
  generalize openB k c b = B at *
  have g0 : B.getD 0 0 = B[0] := by rw [List.getD_eq_getElem?_getD, List.getElem?_eq_getElem (by omega)]; rfl
  have g1 : B.getD 1 0 = B[1] := by rw [List.getD_eq_getElem?_getD, List.getElem?_eq_getElem (by omega)]; rfl
  rw [g0, g1] at hv hw
  have hBm : (B.map eU).length = 20 := by rw [List.length_map, hB0]
  have b0 := u8_lt B[0]
  have b1 := u8_lt B[1]
  by_cases k1 : B[1].toNat ≤ 14
  case neg =>
    have e : openOk k c b = false := by rw [hv, decide_eq_false k1, Bool.and_false]
    rw [e] at hw
    rw [hw, e]
    refine fn_of Try.func49 rfl (by kernel_rfl) rfl ?_
    all_goals repeat' (first
      | (with_reducible rfl)
      | (conv => whnf
         first
           | refine ⟨_, c_IsValidKey _, ?_⟩
           | refine ⟨_, c_InRange _ _ _, ?_⟩
           | refine bcase_F (by rw [h1]; rfl) ?_
           | refine bcase_F (by rw [h2]; rfl) ?_
           | refine bcase_F (by first | (refine bne_eq_false_iff_eq.2 ?_; omega) | (rw [decide_eq_false_iff_not]; omega)) ?_
           | refine ⟨20, (b.map eU).length, rfl, rfl, ⟨(by omega), Nat.le_refl _⟩, fun r hr => lenU _ r hr, ?_⟩
           | refine ⟨0, 20, rfl, rfl, ⟨Nat.zero_le _, (by omega)⟩, fun r hr => lenU _ r hr, ?_⟩
           | refine ⟨_, fn_args (c_checkBytes k c (b.take 20) (by rw [List.length_take]; omega)) (by rw [L, List.map_take]; rfl), ?_⟩
           | refine ⟨_, fn_args (c_Equal8 (b.drop 20) (bytes4 (cellCheck k c (b.take 20))) (by rw [List.length_drop]; omega)) (by rw [L, List.map_drop, List.take_length]; rfl), ?_⟩
           | refine bcase_F (by rw [h4]; rfl) ?_
           | refine ⟨_, c_cellKey k c, ?_⟩
           | refine ⟨_, fn_args hf (by rw [L, List.map_take]; rfl), ?_⟩
           | refine ⟨1, rfl, (by omega), ?_⟩
           | refine ⟨0, rfl, (by omega), ?_⟩
           | refine ⟨_, row_get _ _ (by omega), ?_⟩
           | refine bcase_T (by rw [decide_eq_true_eq, wrap_byte]; omega) ?_
           | exact trivial
           | (with_reducible rfl)
           | exact (rfl : (0 : Int) = ((0 : Nat) : Int))
           | exact w64_nat arith
           | refine bcase_T (by first | with_reducible rfl | decide) ?_
           | refine bcase_F (by first | with_reducible rfl | decide) ?_
           | refine bcase_dec (fun _ => ?_) (fun _ => ?_)
           | refine bcase_not ?_
           | refine bcase_intro (fun _ => ?_) (fun _ => ?_)
           | refine ⟨(by with_reducible rfl), ?_⟩
           | refine ⟨congrArg vi ?_, ?_⟩
           | refine ⟨congrArg vb ?_, ?_⟩
           | refine ⟨rfl, ?_⟩
           | refine ⟨(by kernel_rfl : drawOK _ = true), ?_⟩
           | refine Or.inl ?_
           | refine ⟨⟨congrArg (T.int _) ?_, rfl⟩, ?_⟩
           | refine ⟨⟨congrArg T.bool ?_, rfl⟩, ?_⟩
           | refine ⟨⟨rfl, Nat.le_of_ble_eq_true rfl⟩, ?_⟩
           | refine ⟨⟨rfl, rfl⟩, ?_⟩
           | refine ⟨⟨rfl, (by decide)⟩, ?_⟩
           | refine ⟨⟨rfl, ?_⟩, ?_⟩
           | refine ⟨Or.inr rfl, ?_⟩
           | refine ⟨Or.inl rfl, ?_⟩
           | refine ⟨⟨⟨rfl, rfl, rfl⟩, ?_⟩, ?_⟩
           | refine ⟨_, _, rfl, row_get _ _ arith, rfl, ?_⟩
           | refine ⟨Or.inr (by repeat (first | exact trivial | refine ⟨rfl, ?_⟩)), ?_⟩
           | refine ⟨(?_ : _ = ([] : List (List T))), ?_⟩
           | fail))
    all_goals rfl
  by_cases k0 : B[0].toNat ≤ 3
  case neg =>
    have e : openOk k c b = false := by rw [hv, decide_eq_false k0, Bool.false_and]
    rw [e] at hw
    rw [hw, e]
    refine fn_of Try.func49 rfl (by kernel_rfl) rfl ?_
    all_goals repeat' (first
      | (with_reducible rfl)
      | (conv => whnf
         first
           | refine ⟨_, c_IsValidKey _, ?_⟩
           | refine ⟨_, c_InRange _ _ _, ?_⟩
           | refine bcase_F (by rw [h1]; rfl) ?_
           | refine bcase_F (by rw [h2]; rfl) ?_
           | refine bcase_F (by first | (refine bne_eq_false_iff_eq.2 ?_; omega) | (rw [decide_eq_false_iff_not]; omega)) ?_
           | refine ⟨20, (b.map eU).length, rfl, rfl, ⟨(by omega), Nat.le_refl _⟩, fun r hr => lenU _ r hr, ?_⟩
           | refine ⟨0, 20, rfl, rfl, ⟨Nat.zero_le _, (by omega)⟩, fun r hr => lenU _ r hr, ?_⟩
           | refine ⟨_, fn_args (c_checkBytes k c (b.take 20) (by rw [List.length_take]; omega)) (by rw [L, List.map_take]; rfl), ?_⟩
           | refine ⟨_, fn_args (c_Equal8 (b.drop 20) (bytes4 (cellCheck k c (b.take 20))) (by rw [List.length_drop]; omega)) (by rw [L, List.map_drop, List.take_length]; rfl), ?_⟩
           | refine bcase_F (by rw [h4]; rfl) ?_
           | refine ⟨_, c_cellKey k c, ?_⟩
           | refine ⟨_, fn_args hf (by rw [L, List.map_take]; rfl), ?_⟩
           | refine ⟨1, rfl, (by omega), ?_⟩
           | refine ⟨0, rfl, (by omega), ?_⟩
           | refine ⟨_, row_get _ _ (by omega), ?_⟩
           | refine bcase_T (by rw [decide_eq_true_eq, wrap_byte]; omega) ?_
           | refine bcase_F (by rw [decide_eq_false_iff_not, wrap_byte]; omega) ?_
           | refine ⟨2, B[1].toNat + 2, rfl, (congrArg (fun n => some (vint .i64 n)) (show IntKind.i64.wrap (2 + IntKind.i64.wrap ((B[1].toNat : Nat) : Int)) = ((B[1].toNat + 2 : Nat) : Int) by rw [wrap_byte, w64_ok (by omega) (by omega)]; omega)), ⟨(by omega), (by omega)⟩, ?_⟩
           | refine ⟨_, fn_arg1 (c_Clone8 ((B.drop 2).take B[1].toNat) (by rw [List.length_take]; omega)) (congrArg T.lst (open_take _ _)), ?_⟩
           | refine ⟨_, c_IsValidPlain ⟨IntKind.i64.wrap (B[0].toNat : Int), (B.drop 2).take B[1].toNat⟩, ?_⟩
           | refine bcase_T (by unfold plainOk; dsimp only; rw [wrap_byte, inR_not.2 (by omega)]; rfl) ?_
           | exact trivial
           | (with_reducible rfl)
           | exact (rfl : (0 : Int) = ((0 : Nat) : Int))
           | exact w64_nat arith
           | refine bcase_T (by first | with_reducible rfl | decide) ?_
           | refine bcase_F (by first | with_reducible rfl | decide) ?_
           | refine bcase_dec (fun _ => ?_) (fun _ => ?_)
           | refine bcase_not ?_
           | refine bcase_intro (fun _ => ?_) (fun _ => ?_)
           | refine ⟨(by with_reducible rfl), ?_⟩
           | refine ⟨congrArg vi ?_, ?_⟩
           | refine ⟨congrArg vb ?_, ?_⟩
           | refine ⟨rfl, ?_⟩
           | refine ⟨(by kernel_rfl : drawOK _ = true), ?_⟩
           | refine Or.inl ?_
           | refine ⟨⟨congrArg (T.int _) ?_, rfl⟩, ?_⟩
           | refine ⟨⟨congrArg T.bool ?_, rfl⟩, ?_⟩
           | refine ⟨⟨rfl, Nat.le_of_ble_eq_true rfl⟩, ?_⟩
           | refine ⟨⟨rfl, rfl⟩, ?_⟩
           | refine ⟨⟨rfl, (by decide)⟩, ?_⟩
           | refine ⟨⟨rfl, ?_⟩, ?_⟩
           | refine ⟨Or.inr rfl, ?_⟩
           | refine ⟨Or.inl rfl, ?_⟩
           | refine ⟨⟨⟨rfl, rfl, rfl⟩, ?_⟩, ?_⟩
           | refine ⟨_, _, rfl, row_get _ _ arith, rfl, ?_⟩
           | refine ⟨Or.inr (by repeat (first | exact trivial | refine ⟨rfl, ?_⟩)), ?_⟩
           | refine ⟨(?_ : _ = ([] : List (List T))), ?_⟩
           | fail))
    all_goals rfl
  have e : openOk k c b = true := by rw [hv, decide_eq_true k0, decide_eq_true k1]; rfl
  rw [e, if_pos rfl] at hw
  rw [hw, e]
  refine fn_of Try.func49 rfl (by kernel_rfl) rfl ?_
  all_goals repeat' (first
    | (with_reducible rfl)
    | (conv => whnf
       first
         | refine ⟨_, c_IsValidKey _, ?_⟩
         | refine ⟨_, c_InRange _ _ _, ?_⟩
         | refine bcase_F (by rw [h1]; rfl) ?_
         | refine bcase_F (by rw [h2]; rfl) ?_
         | refine bcase_F (by first | (refine bne_eq_false_iff_eq.2 ?_; omega) | (rw [decide_eq_false_iff_not]; omega)) ?_
         | refine ⟨20, (b.map eU).length, rfl, rfl, ⟨(by omega), Nat.le_refl _⟩, fun r hr => lenU _ r hr, ?_⟩
         | refine ⟨0, 20, rfl, rfl, ⟨Nat.zero_le _, (by omega)⟩, fun r hr => lenU _ r hr, ?_⟩
         | refine ⟨_, fn_args (c_checkBytes k c (b.take 20) (by rw [List.length_take]; omega)) (by rw [L, List.map_take]; rfl), ?_⟩
         | refine ⟨_, fn_args (c_Equal8 (b.drop 20) (bytes4 (cellCheck k c (b.take 20))) (by rw [List.length_drop]; omega)) (by rw [L, List.map_drop, List.take_length]; rfl), ?_⟩
         | refine bcase_F (by rw [h4]; rfl) ?_
         | refine ⟨_, c_cellKey k c, ?_⟩
         | refine ⟨_, fn_args hf (by rw [L, List.map_take]; rfl), ?_⟩
         | refine ⟨1, rfl, (by omega), ?_⟩
         | refine ⟨0, rfl, (by omega), ?_⟩
         | refine ⟨_, row_get _ _ (by omega), ?_⟩
         | refine bcase_F (by rw [decide_eq_false_iff_not, wrap_byte]; omega) ?_
         | refine ⟨2, B[1].toNat + 2, rfl, (congrArg (fun n => some (vint .i64 n)) (show IntKind.i64.wrap (2 + IntKind.i64.wrap ((B[1].toNat : Nat) : Int)) = ((B[1].toNat + 2 : Nat) : Int) by rw [wrap_byte, w64_ok (by omega) (by omega)]; omega)), ⟨(by omega), (by omega)⟩, ?_⟩
         | refine ⟨_, fn_arg1 (c_Clone8 ((B.drop 2).take B[1].toNat) (by rw [List.length_take]; omega)) (congrArg T.lst (open_take _ _)), ?_⟩
         | refine ⟨_, c_IsValidPlain ⟨IntKind.i64.wrap (B[0].toNat : Int), (B.drop 2).take B[1].toNat⟩, ?_⟩
         | refine bcase_F (by unfold plainOk; dsimp only; rw [wrap_byte, inR_iff.2 (by omega), decide_eq_true (by rw [List.length_take]; omega)]; rfl) ?_
         | exact trivial
         | (with_reducible rfl)
         | exact (rfl : (0 : Int) = ((0 : Nat) : Int))
         | exact w64_nat arith
         | refine bcase_T (by first | with_reducible rfl | decide) ?_
         | refine bcase_F (by first | with_reducible rfl | decide) ?_
         | refine bcase_dec (fun _ => ?_) (fun _ => ?_)
         | refine bcase_not ?_
         | refine bcase_intro (fun _ => ?_) (fun _ => ?_)
         | refine ⟨(by with_reducible rfl), ?_⟩
         | refine ⟨congrArg vi ?_, ?_⟩
         | refine ⟨congrArg vb ?_, ?_⟩
         | refine ⟨rfl, ?_⟩
         | refine ⟨(by kernel_rfl : drawOK _ = true), ?_⟩
         | refine Or.inl ?_
         | refine ⟨⟨congrArg (T.int _) ?_, rfl⟩, ?_⟩
         | refine ⟨⟨congrArg T.bool ?_, rfl⟩, ?_⟩
         | refine ⟨⟨rfl, Nat.le_of_ble_eq_true rfl⟩, ?_⟩
         | refine ⟨⟨rfl, rfl⟩, ?_⟩
         | refine ⟨⟨rfl, (by decide)⟩, ?_⟩
         | refine ⟨⟨rfl, ?_⟩, ?_⟩
         | refine ⟨Or.inr rfl, ?_⟩
         | refine ⟨Or.inl rfl, ?_⟩
         | refine ⟨⟨⟨rfl, rfl, rfl⟩, ?_⟩, ?_⟩
         | refine ⟨_, _, rfl, row_get _ _ arith, rfl, ?_⟩
         | refine ⟨Or.inr (by repeat (first | exact trivial | refine ⟨rfl, ?_⟩)), ?_⟩
         | refine ⟨(?_ : _ = ([] : List (List T))), ?_⟩
         | fail))
  all_goals first
    | rfl
    | exact wrap_byte _
    | exact open_take _ _
    | (simp only [List.nil_append]; exact open_take _ _)
    | skip
end Go.Proofs.Ytdbgmncapignoaa
