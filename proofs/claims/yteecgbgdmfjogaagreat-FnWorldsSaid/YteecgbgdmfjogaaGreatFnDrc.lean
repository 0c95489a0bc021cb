/-
  Contracts: archives that the cursor draws.
  Contracts: archives of any shape, rounds to add to them, as the cursor draws them.
  Conditions: none.
-/
import Derived.Test.YteecgbgdmfjogaaGreatFnDrd
namespace Go.Proofs.YteecgbgdmfjogaaGreat
set_option maxHeartbeats 4000000
set_option maxRecDepth 20000
open Go.Vm Go.RowKit
attribute [local irreducible] FnAt MutAt InAt JAt CurAt FnE CurE RegAt
/-- An archive that is being drawn: the archive, the next round's number, the cursor. -/
structure ArS where
  a : DArchive
  r : Int
  c : Cu
def arStep (s : ArS) : ArS := ⟨addRound s.a s.r ⟨dbR s.c s.a.Rows.toNat⟩, s.r + 1 + beV (cuI s.c (24 * s.a.Rows.toNat)) 2, beN (cuI s.c (24 * s.a.Rows.toNat)) 2⟩
def arI (s : ArS) : Nat → ArS
  | 0 => s
  | i + 1 => arStep (arI s i)
structure ArOk (k : Nat) (s : ArS) : Prop where
  ok : s.c.ok
  rows : 1 ≤ s.a.Rows ∧ s.a.Rows ≤ 3
  big : bigR s.a.Rounds
  len : s.a.Rounds.length ≤ 8
  r0 : 0 ≤ s.r ∧ s.r ≤ 2 * k
theorem addRounds_le (a : DArchive) (r : Int) (d : DDatabase) (h : a.Rounds.length ≤ 8) : (addRounds a r d).length ≤ 8 := by
  unfold addRounds withRound
  split
  · simp only [List.length_drop, List.length_append, List.length_cons, List.length_nil]; omega
  · rename_i h2; omega
theorem addRounds_mem {a : DArchive} {r : Int} {d : DDatabase} {x : DArchivedRound} (h : x ∈ addRounds a r d) : x ∈ a.Rounds ∨ x = ⟨r, d⟩ := by
  have : x ∈ withRound a r d := by
    unfold addRounds at h
    split at h
    · exact List.mem_of_mem_drop h
    · exact h
  unfold withRound at this
  simpa using this
theorem dbR_mem {c : Cu} {n : Nat} {x : List UInt8} (h : x ∈ dbR c n) : x.length = 24 := by
  simp only [dbR, List.mem_map] at h
  obtain ⟨j, _, rfl⟩ := h
  exact byV_len _ _
theorem dbR_big (c : Cu) (n : Nat) (h : n ≤ 1024) : bigB (dbR c n) := ⟨by rw [dbR_len]; omega, fun x hx => by rw [dbR_mem hx]; omega⟩
theorem arStep_ok {k : Nat} {s : ArS} (h : ArOk k s) : ArOk (k + 1) (arStep s) := by
  obtain ⟨h1, h2, h3, h4, h5⟩ := h
  have hb := beV_lt (c := cuI s.c (24 * s.a.Rows.toNat)) (n := 2) (by omega)
  refine ⟨beN_ok (cuI_ok h1 _), ?_, ?_, ?_, ?_⟩
  · show 1 ≤ (addRound s.a s.r _).Rows ∧ (addRound s.a s.r _).Rows ≤ 3
    unfold addRound
    split <;> exact h2
  · show bigR (addRound s.a s.r _).Rounds
    unfold addRound
    split
    · have := addRounds_le s.a s.r ⟨dbR s.c s.a.Rows.toNat⟩ h4
      refine ⟨by show (addRounds _ _ _).length ≤ _; omega, fun x hx => ?_⟩
      rcases addRounds_mem hx with hx | rfl
      · exact h3.2 x hx
      · exact dbR_big _ _ (by omega)
    · exact h3
  · show (addRound s.a s.r _).Rounds.length ≤ 8
    unfold addRound
    split
    · exact addRounds_le _ _ _ h4
    · exact h4
  · show 0 ≤ s.r + 1 + beV _ 2 ∧ s.r + 1 + beV _ 2 ≤ 2 * (k + 1 : Nat)
    omega
theorem arI_ok {s : ArS} (h : ArOk 0 s) : ∀ i, ArOk i (arI s i)
  | 0 => h
  | i + 1 => arStep_ok (arI_ok h i)
def ar0 (c : Cu) : ArS := ⟨newArch (IntKind.i64.wrap (1 + beV c 3)), 0, beN (beN c 3) 4⟩
theorem ar0_ok {c : Cu} (h : c.ok) : ArOk 0 (ar0 c) := by
  have hb := beV_lt (c := c) (n := 3) (by omega)
  refine ⟨beN_ok (beN_ok h), ?_, ⟨by simp [ar0, newArch], by simp [ar0, newArch]⟩, by simp [ar0, newArch], by simp [ar0]⟩
  have w1 : IntKind.i64.wrap (1 + beV c 3) = 1 + beV c 3 := w64_ok (by omega) (by omega)
  have : inR (1 + beV c 3) 1 64 = true := inR_iff.2 ⟨by omega, by omega⟩
  simp only [ar0, newArch, w1, this, if_true]
  omega
def arK (c : Cu) : Nat := match beT (beN c 3) 4 with
  | 0 => 0
  | 1 => 2
  | 2 => 5
  | _ => 10
theorem arK_eq (c : Cu) : [0, 2, 5, 10][(beV (beN c 3) 4).toNat]?.getD 0 = (arK c : Int) := by
  have h := (beT_eq (beN c 3) 4 (by omega))
  rw [show ((4 : Nat) : Int) = (4 : Int) from rfl] at h
  unfold arK
  rw [h.1, Int.toNat_natCast]
  have := h.2
  generalize beT (beN c 3) 4 = k at *
  match k, this with
  | 0, _ => rfl
  | 1, _ => rfl
  | 2, _ => rfl
  | 3, _ => rfl
def arV (c : Cu) : ArS := arI (ar0 c) (arK c)
theorem c_sAddRoundL (a : DArchive) (r : Int) (d : DDatabase) (h : bigR a.Rounds) (h2 : a.Rounds.length ≤ 1048576) (hd : bigB d.Rows) : FnAt Tryz.prog 120 [.agg (DArchive.e a), .one (I r), .agg (DDatabase.e d)] [.agg (DArchive.r (addRound a r d)), .one (.s (.bool (addOk a r d)))] := by
  have hm : (withRound a r d).map DArchivedRound.e = a.Rounds.map DArchivedRound.e ++ [DArchivedRound.e ⟨r, d⟩] := by simp [withRound]
  have hl : (withRound a r d).length = a.Rounds.length + 1 := by simp [withRound]
  have hm2 := lenm DArchivedRound.e a.Rounds
  have hm3 := lenm (eL eU) d.Rows
  refine fn_of Tryz.func120 rfl (by kernel_rfl) rfl ?_
  all_goals repeat' (first | (with_reducible rfl) | ((conv => whnf); first | exact trivial | (with_reducible rfl) | exact (rfl : (0 : Int) = ((0 : Nat) : Int)) | exact w64_nat arith | refine bcase_T (by first | with_reducible rfl | decide) ?_ | refine bcase_F (by first | with_reducible rfl | decide) ?_ | refine bcase_dec (fun _ => ?_) (fun _ => ?_) | refine bcase_not ?_ | refine bcase_intro (fun _ => ?_) (fun _ => ?_) | refine ⟨(by with_reducible rfl), ?_⟩ | refine ⟨congrArg vi ?_, ?_⟩ | refine ⟨congrArg vb ?_, ?_⟩ | refine ⟨rfl, ?_⟩ | refine ⟨(by kernel_rfl : drawOK _ = true), ?_⟩ | refine Or.inl ?_ | refine ⟨⟨congrArg (T.int _) ?_, rfl⟩, ?_⟩ | refine ⟨⟨congrArg T.bool ?_, rfl⟩, ?_⟩ | refine ⟨⟨rfl, Nat.le_of_ble_eq_true rfl⟩, ?_⟩ | refine ⟨⟨rfl, rfl⟩, ?_⟩ | refine ⟨⟨rfl, (by decide)⟩, ?_⟩ | refine ⟨⟨rfl, ?_⟩, ?_⟩ | refine ⟨Or.inr rfl, ?_⟩ | refine ⟨Or.inl rfl, ?_⟩ | refine ⟨⟨⟨rfl, rfl, rfl⟩, ?_⟩, ?_⟩ | refine ⟨_, _, rfl, row_get _ _ arith, rfl, ?_⟩ | refine ⟨Or.inr (by repeat (first | exact trivial | refine ⟨rfl, ?_⟩)), ?_⟩ | refine ⟨(?_ : _ = ([] : List (List T))), ?_⟩ | refine ⟨_, c_l28Copy a h, ?_⟩ | refine ⟨_, c_sIsValidArchive a h, ?_⟩ | refine ⟨_, c_l1In _ _ _, ?_⟩ | refine ⟨_, c_sLastRound a h.1, ?_⟩ | refine ⟨_, c_sIsValidDatabase d hd.1, ?_⟩ | refine ⟨_, c_l8Copy d hd, ?_⟩ | refine ⟨⟨bnd, bnd⟩, ?_⟩ | refine ⟨1, _, rfl, rfl, ⟨bnd, Nat.le_refl _⟩, ?_⟩ | fail))
  all_goals (try refine ⟨(by simp only [List.length_append, List.length_map, List.length_cons, List.length_nil] at *; omega), Nat.le_refl _, ?_⟩)
  all_goals (try rw [List.take_length])
  all_goals first
    | (have e : addOk a r d = false := (by unfold addOk; grind); first | exact e.symm | (simp only [addRound, e]; rfl))
    | (have e : addOk a r d = true := (by unfold addOk; grind); first | exact e.symm | (simp only [addRound, e, if_true]; done) | (simp only [addRound, e, if_true, addRounds]; rw [if_pos (by simp only [List.length_append, List.length_map, List.length_cons, List.length_nil] at *; omega), List.map_drop, hm]; rfl) | (simp only [addRound, e, if_true, addRounds]; rw [if_neg (by simp only [List.length_append, List.length_map, List.length_cons, List.length_nil] at *; omega), hm]; rfl))
    | skip
theorem c_l28Archive (c : Cu) (h : c.ok) : CurAt Tryz.prog 103 (Cu.e c) (Cu.e (arV c).c) [] [.agg (DArchive.r (arV c).a)] := by
  have hk := arK_eq c
  have h0 := ar0_ok h
  have hi := fun i => arI_ok h0 i
  have h3 := beV_lt (c := c) (n := 3) (by omega)
  have w1 : IntKind.i64.wrap (1 + beV c 3) = 1 + beV c 3 := w64_ok (by omega) (by omega)
  have hK : arK c ≤ 10 := by unfold arK; split <;> omega
  refine cur_of Tryz.func103 rfl (by kernel_rfl) rfl ?_
  all_goals repeat' (first | (with_reducible rfl) | ((conv => whnf); first | (refine Or.inr ⟨rfl, Or.inl ?_⟩; (conv => whnf); refine inAt_cur (c_l1Below c 3 h) (by rfl) (by rfl) (by rfl) ?_) | (refine Or.inr ⟨rfl, Or.inl ?_⟩; (conv => whnf); refine inAt_cur (c_l1Int (beN c 3) [0, 2, 5, 10] (beN_ok h) (by decide) (by decide)) (by rfl) (by rfl) (by rfl) ?_) | refine ⟨_, c_sNewArchive _, ?_⟩ | exact trivial | (with_reducible rfl) | exact (rfl : (0 : Int) = ((0 : Nat) : Int)) | exact w64_nat arith | refine bcase_T (by first | with_reducible rfl | decide) ?_ | refine bcase_F (by first | with_reducible rfl | decide) ?_ | refine bcase_dec (fun _ => ?_) (fun _ => ?_) | refine bcase_not ?_ | refine bcase_intro (fun _ => ?_) (fun _ => ?_) | refine ⟨(by with_reducible rfl), ?_⟩ | refine ⟨congrArg vi ?_, ?_⟩ | refine ⟨congrArg vb ?_, ?_⟩ | refine ⟨rfl, ?_⟩ | refine ⟨(by kernel_rfl : drawOK _ = true), ?_⟩ | refine Or.inl ?_ | refine ⟨⟨congrArg (T.int _) ?_, rfl⟩, ?_⟩ | refine ⟨⟨congrArg T.bool ?_, rfl⟩, ?_⟩ | refine ⟨⟨rfl, Nat.le_of_ble_eq_true rfl⟩, ?_⟩ | refine ⟨⟨rfl, rfl⟩, ?_⟩ | refine ⟨⟨rfl, (by decide)⟩, ?_⟩ | refine ⟨⟨rfl, ?_⟩, ?_⟩ | refine ⟨Or.inr rfl, ?_⟩ | refine ⟨Or.inl rfl, ?_⟩ | refine ⟨⟨⟨rfl, rfl, rfl⟩, ?_⟩, ?_⟩ | refine ⟨_, _, rfl, row_get _ _ arith, rfl, ?_⟩ | refine ⟨Or.inr (by repeat (first | exact trivial | refine ⟨rfl, ?_⟩)), ?_⟩ | refine ⟨(?_ : _ = ([] : List (List T))), ?_⟩ | fail))
  conv => whnf
  refine ⟨Nat, fun i => i ≤ arK c, fun i => ⟨[(0, .pin (.ptr 0 0)), (2, .ptr 1 0), (3, .ptr 2 0), (4, vi (arI (ar0 c) i).r), (5, vi ((arK c : Int) - i))], [(0, .box [.anc (L eU (arI (ar0 c) i).c.b), .t (I (arI (ar0 c) i).c.i), .t (I (arI (ar0 c) i).c.h)]), (1, .box [.t (I 0), .nil]), (2, .box [.t (I (arI (ar0 c) i).a.Rows), .ref 3]), (3, .row true true 2 ((arI (ar0 c) i).a.Rounds.map DArchivedRound.e))], 4⟩, fun i => arK c - i, 0, Nat.zero_le _, sub_at2 [(0, 0, 0), (1, 2, 0), (2, 3, 0), (3, 3, 2)] rfl rfl rfl ?_ ?_, fun i (hj : i ≤ arK c) => ?_⟩
  all_goals repeat' (first | (with_reducible rfl) | ((conv => whnf); first | (refine bcase_dec (fun _ => ?_) (fun _ => ?_); rotate_left; (have e9 : arV c = arI (ar0 c) i := (by unfold arV; rw [show arK c = i from (by omega)])); rw [e9]; rotate_right) | refine Or.inr ⟨(by kernel_rfl), 0, ⟨_, rfl⟩, ?_⟩ | (refine Or.inl ?_; (conv => whnf); refine ⟨_, _, c_l8DatabaseI (arI (ar0 c) i).c (arI (ar0 c) i).a.Rows (arI (ar0 c) i).a.Rows.toNat (hi i).ok (by have := (hi i).rows; omega) (by have := (hi i).rows; omega), ?_⟩) | (refine Or.inr (?_ : hidO _ _ _ _ _ _ _); (conv => whnf); refine Or.inl ?_; (conv => whnf); refine ⟨_, c_sAddRoundL (arI (ar0 c) i).a (arI (ar0 c) i).r ⟨dbR (arI (ar0 c) i).c (arI (ar0 c) i).a.Rows.toNat⟩ (hi i).big (by have := (hi i).len; omega) (dbR_big _ _ (by have := (hi i).rows; omega)), ?_⟩) | (refine Or.inr ⟨rfl, Or.inl ?_⟩; (conv => whnf); refine inAt_cur (c_l1Below (cuI (arI (ar0 c) i).c (24 * (arI (ar0 c) i).a.Rows.toNat)) 2 (cuI_ok (hi i).ok _)) (by rfl) (by rfl) (by rfl) ?_) | refine ⟨i + 1, ⟨arith, arith⟩, sub_at2 [(0, 0, 0), (1, 2, 0), (2, 3, 0), (3, 3, 2)] rfl rfl rfl ?_ ?_⟩ | exact trivial | (with_reducible rfl) | exact (rfl : (0 : Int) = ((0 : Nat) : Int)) | exact w64_nat arith | refine bcase_T (by first | with_reducible rfl | decide) ?_ | refine bcase_F (by first | with_reducible rfl | decide) ?_ | refine bcase_dec (fun _ => ?_) (fun _ => ?_) | refine bcase_not ?_ | refine bcase_intro (fun _ => ?_) (fun _ => ?_) | refine ⟨(by with_reducible rfl), ?_⟩ | refine ⟨congrArg vi ?_, ?_⟩ | refine ⟨congrArg vb ?_, ?_⟩ | refine ⟨rfl, ?_⟩ | refine ⟨(by kernel_rfl : drawOK _ = true), ?_⟩ | refine Or.inl ?_ | refine ⟨⟨congrArg (T.int _) ?_, rfl⟩, ?_⟩ | refine ⟨⟨congrArg T.bool ?_, rfl⟩, ?_⟩ | refine ⟨⟨rfl, Nat.le_of_ble_eq_true rfl⟩, ?_⟩ | refine ⟨⟨rfl, rfl⟩, ?_⟩ | refine ⟨⟨rfl, (by decide)⟩, ?_⟩ | refine ⟨⟨rfl, ?_⟩, ?_⟩ | refine ⟨Or.inr rfl, ?_⟩ | refine ⟨Or.inl rfl, ?_⟩ | refine ⟨⟨⟨rfl, rfl, rfl⟩, ?_⟩, ?_⟩ | refine ⟨_, _, rfl, row_get _ _ arith, rfl, ?_⟩ | refine ⟨Or.inr (by repeat (first | exact trivial | refine ⟨rfl, ?_⟩)), ?_⟩ | refine ⟨(?_ : _ = ([] : List (List T))), ?_⟩ | fail))
  all_goals first
    | rfl
    | (rw [w64_ok (by omega) (by omega)]; omega)
    | (have h8 := (hi i).r0; have h9 := beV_lt (c := cuI (arI (ar0 c) i).c (24 * (arI (ar0 c) i).a.Rows.toNat)) (n := 2) (by omega); rw [w64_ok (n := (arI (ar0 c) i).r + 1) (by omega) (by omega), w64_ok (by omega) (by omega)]; rfl)
    | (show [0, 2, 5, 10][(beV (beN c 3) 4).toNat]?.getD 0 = _; rw [hk]; omega)
end Go.Proofs.YteecgbgdmfjogaaGreat

namespace Go.Proofs.YteecgbgdmfjogaaGreat
set_option maxHeartbeats 4000000
set_option maxRecDepth 20000
open Go.Vm Go.RowKit
attribute [local irreducible] FnAt MutAt InAt JAt CurAt FnE CurE RegAt
theorem arV_ok {c : Cu} (h : c.ok) : ArOk (arK c) (arV c) := arI_ok (ar0_ok h) _
def aaC2 (c : Cu) : Cu := beN (arV c).c 10
def aaL (c : Cu) : List Int := [0, IntKind.i64.wrap ((arV c).a.Rows + 1), 65]
def aaM : List Int := [-1, 0, 100000, 100001]
def aaN (c : Cu) : Cu := if beV (arV c).c 10 = 0 then beN (aaC2 c) 3 else if beV (arV c).c 10 = 1 then anN (beN (aaC2 c) 4) else aaC2 c
def aaV (c : Cu) : DArchive := if beV (arV c).c 10 = 0 then ⟨(aaL c)[(beV (aaC2 c) 3).toNat]?.getD 0, (arV c).a.Rounds⟩
  else if beV (arV c).c 10 = 1 then ⟨(arV c).a.Rows, (arV c).a.Rounds ++ [⟨aaM[(beV (aaC2 c) 4).toNat]?.getD 0, anV (beN (aaC2 c) 4)⟩]⟩ else (arV c).a
theorem aaC2_ok {c : Cu} (h : c.ok) : (aaC2 c).ok := beN_ok (arV_ok h).ok
theorem aaN_ok {c : Cu} (h : c.ok) : (aaN c).ok := by
  unfold aaN
  split
  · exact beN_ok (aaC2_ok h)
  · split
    · exact anN_ok (beN_ok (aaC2_ok h))
    · exact aaC2_ok h
theorem aaV_big {c : Cu} (h : c.ok) : bigR (aaV c).Rounds ∧ (aaV c).Rounds.length ≤ 9 := by
  obtain ⟨h1, h2, h3, h4, h5⟩ := arV_ok h
  unfold aaV
  split
  · exact ⟨h3, by show (arV c).a.Rounds.length ≤ 9; omega⟩
  · split
    · refine ⟨⟨by simp; omega, fun x hx => ?_⟩, by simp; omega⟩
      rcases List.mem_append.1 hx with hx | hx
      · exact h3.2 x hx
      · rw [List.mem_singleton.1 hx]
        exact anV_big _
    · exact ⟨h3, by omega⟩
theorem c_l28Any (c : Cu) (h : c.ok) : CurAt Tryz.prog 75 (Cu.e c) (Cu.e (aaN c)) [] [.agg (DArchive.r (aaV c))] := by
  have hk := arV_ok h
  have hlen := hk.len
  by_cases n1 : beV (arV c).c 10 = 0
  · have e1 : aaN c = beN (aaC2 c) 3 := if_pos n1
    have e2 : aaV c = ⟨(aaL c)[(beV (aaC2 c) 3).toNat]?.getD 0, (arV c).a.Rounds⟩ := if_pos n1
    rw [e1, e2]
    refine cur_of Tryz.func75 rfl (by kernel_rfl) rfl ?_
    all_goals repeat' (first | (with_reducible rfl) | ((conv => whnf); first | (refine Or.inr ⟨rfl, Or.inl ?_⟩; (conv => whnf); refine inAt_cur (c_l28Archive c h) (by rfl) (by rfl) (by rfl) ?_) | (refine Or.inr ⟨rfl, Or.inl ?_⟩; (conv => whnf); refine inAt_cur (c_l1Below (arV c).c 10 hk.ok) (by rfl) (by rfl) (by rfl) ?_) | (refine Or.inr ⟨rfl, Or.inl ?_⟩; (conv => whnf); refine inAt_cur (c_l1Int (aaC2 c) (aaL c) (aaC2_ok h) (by show 0 < 3; decide) (by show 3 ≤ 1099511627776; decide)) (by rfl) (by rfl) (by rfl) ?_) | refine bcase_T (by rw [n1]; rfl) ?_ | exact trivial | (with_reducible rfl) | exact (rfl : (0 : Int) = ((0 : Nat) : Int)) | exact w64_nat arith | refine bcase_T (by first | with_reducible rfl | decide) ?_ | refine bcase_F (by first | with_reducible rfl | decide) ?_ | refine bcase_dec (fun _ => ?_) (fun _ => ?_) | refine bcase_not ?_ | refine bcase_intro (fun _ => ?_) (fun _ => ?_) | refine ⟨(by with_reducible rfl), ?_⟩ | refine ⟨congrArg vi ?_, ?_⟩ | refine ⟨congrArg vb ?_, ?_⟩ | refine ⟨rfl, ?_⟩ | refine ⟨(by kernel_rfl : drawOK _ = true), ?_⟩ | refine Or.inl ?_ | refine ⟨⟨congrArg (T.int _) ?_, rfl⟩, ?_⟩ | refine ⟨⟨congrArg T.bool ?_, rfl⟩, ?_⟩ | refine ⟨⟨rfl, Nat.le_of_ble_eq_true rfl⟩, ?_⟩ | refine ⟨⟨rfl, rfl⟩, ?_⟩ | refine ⟨⟨rfl, (by decide)⟩, ?_⟩ | refine ⟨⟨rfl, ?_⟩, ?_⟩ | refine ⟨Or.inr rfl, ?_⟩ | refine ⟨Or.inl rfl, ?_⟩ | refine ⟨⟨⟨rfl, rfl, rfl⟩, ?_⟩, ?_⟩ | refine ⟨_, _, rfl, row_get _ _ arith, rfl, ?_⟩ | refine ⟨Or.inr (by repeat (first | exact trivial | refine ⟨rfl, ?_⟩)), ?_⟩ | refine ⟨(?_ : _ = ([] : List (List T))), ?_⟩ | fail))
    all_goals rfl
  · by_cases n2 : beV (arV c).c 10 = 1
    · have e1 : aaN c = anN (beN (aaC2 c) 4) := by unfold aaN; rw [if_neg n1, if_pos n2]
      have e2 : aaV c = ⟨(arV c).a.Rows, (arV c).a.Rounds ++ [⟨aaM[(beV (aaC2 c) 4).toNat]?.getD 0, anV (beN (aaC2 c) 4)⟩]⟩ := by unfold aaV; rw [if_neg n1, if_pos n2]
      rw [e1, e2]
      refine cur_of Tryz.func75 rfl (by kernel_rfl) rfl ?_
      all_goals repeat' (first | (with_reducible rfl) | ((conv => whnf); first | (refine Or.inr ⟨rfl, Or.inl ?_⟩; (conv => whnf); refine inAt_cur (c_l28Archive c h) (by rfl) (by rfl) (by rfl) ?_) | (refine Or.inr ⟨rfl, Or.inl ?_⟩; (conv => whnf); refine inAt_cur (c_l1Below (arV c).c 10 hk.ok) (by rfl) (by rfl) (by rfl) ?_) | refine bcase_F (by rw [n2]; rfl) ?_ | refine bcase_T (by rw [n2]; rfl) ?_ | refine Or.inr ⟨(by kernel_rfl), 0, ⟨_, rfl⟩, ?_⟩ | (refine Or.inl ?_; (conv => whnf); first | refine ⟨_, _, c_l1Int (aaC2 c) aaM (aaC2_ok h) (by decide) (by decide), ?_⟩ | refine ⟨_, _, c_l8Any (beN (aaC2 c) 4) (beN_ok (aaC2_ok h)), ?_⟩) | (have h8 := hk.len; refine ⟨⟨bnd, bnd⟩, ?_⟩) | exact trivial | (with_reducible rfl) | exact (rfl : (0 : Int) = ((0 : Nat) : Int)) | exact w64_nat arith | refine bcase_T (by first | with_reducible rfl | decide) ?_ | refine bcase_F (by first | with_reducible rfl | decide) ?_ | refine bcase_dec (fun _ => ?_) (fun _ => ?_) | refine bcase_not ?_ | refine bcase_intro (fun _ => ?_) (fun _ => ?_) | refine ⟨(by with_reducible rfl), ?_⟩ | refine ⟨congrArg vi ?_, ?_⟩ | refine ⟨congrArg vb ?_, ?_⟩ | refine ⟨rfl, ?_⟩ | refine ⟨(by kernel_rfl : drawOK _ = true), ?_⟩ | refine Or.inl ?_ | refine ⟨⟨congrArg (T.int _) ?_, rfl⟩, ?_⟩ | refine ⟨⟨congrArg T.bool ?_, rfl⟩, ?_⟩ | refine ⟨⟨rfl, Nat.le_of_ble_eq_true rfl⟩, ?_⟩ | refine ⟨⟨rfl, rfl⟩, ?_⟩ | refine ⟨⟨rfl, (by decide)⟩, ?_⟩ | refine ⟨⟨rfl, ?_⟩, ?_⟩ | refine ⟨Or.inr rfl, ?_⟩ | refine ⟨Or.inl rfl, ?_⟩ | refine ⟨⟨⟨rfl, rfl, rfl⟩, ?_⟩, ?_⟩ | refine ⟨_, _, rfl, row_get _ _ arith, rfl, ?_⟩ | refine ⟨Or.inr (by repeat (first | exact trivial | refine ⟨rfl, ?_⟩)), ?_⟩ | refine ⟨(?_ : _ = ([] : List (List T))), ?_⟩ | fail))
      all_goals first | rfl | (rw [List.map_append]; rfl)
    · have e1 : aaN c = aaC2 c := by unfold aaN; rw [if_neg n1, if_neg n2]
      have e2 : aaV c = (arV c).a := by unfold aaV; rw [if_neg n1, if_neg n2]
      rw [e1, e2]
      refine cur_of Tryz.func75 rfl (by kernel_rfl) rfl ?_
      all_goals repeat' (first | (with_reducible rfl) | ((conv => whnf); first | (refine Or.inr ⟨rfl, Or.inl ?_⟩; (conv => whnf); refine inAt_cur (c_l28Archive c h) (by rfl) (by rfl) (by rfl) ?_) | (refine Or.inr ⟨rfl, Or.inl ?_⟩; (conv => whnf); refine inAt_cur (c_l1Below (arV c).c 10 hk.ok) (by rfl) (by rfl) (by rfl) ?_) | refine bcase_F (by first | exact beq_eq_false_iff_ne.2 n1 | exact beq_eq_false_iff_ne.2 n2) ?_ | exact trivial | (with_reducible rfl) | exact (rfl : (0 : Int) = ((0 : Nat) : Int)) | exact w64_nat arith | refine bcase_T (by first | with_reducible rfl | decide) ?_ | refine bcase_F (by first | with_reducible rfl | decide) ?_ | refine bcase_dec (fun _ => ?_) (fun _ => ?_) | refine bcase_not ?_ | refine bcase_intro (fun _ => ?_) (fun _ => ?_) | refine ⟨(by with_reducible rfl), ?_⟩ | refine ⟨congrArg vi ?_, ?_⟩ | refine ⟨congrArg vb ?_, ?_⟩ | refine ⟨rfl, ?_⟩ | refine ⟨(by kernel_rfl : drawOK _ = true), ?_⟩ | refine Or.inl ?_ | refine ⟨⟨congrArg (T.int _) ?_, rfl⟩, ?_⟩ | refine ⟨⟨congrArg T.bool ?_, rfl⟩, ?_⟩ | refine ⟨⟨rfl, Nat.le_of_ble_eq_true rfl⟩, ?_⟩ | refine ⟨⟨rfl, rfl⟩, ?_⟩ | refine ⟨⟨rfl, (by decide)⟩, ?_⟩ | refine ⟨⟨rfl, ?_⟩, ?_⟩ | refine ⟨Or.inr rfl, ?_⟩ | refine ⟨Or.inl rfl, ?_⟩ | refine ⟨⟨⟨rfl, rfl, rfl⟩, ?_⟩, ?_⟩ | refine ⟨_, _, rfl, row_get _ _ arith, rfl, ?_⟩ | refine ⟨Or.inr (by repeat (first | exact trivial | refine ⟨rfl, ?_⟩)), ?_⟩ | refine ⟨(?_ : _ = ([] : List (List T))), ?_⟩ | fail))
      all_goals rfl
end Go.Proofs.YteecgbgdmfjogaaGreat
