/-
  Contract: worlds that the cursor makes, known by their size.
  Conditions: none.
-/
import Derived.Test.YteecgbgdmfjogaaGreatFnWe
import Derived.Test.YteecgbgdmfjogaaGreatFnGx
import Derived.Test.YteecgbgdmfjogaaGreatFnNwS
namespace Go.Proofs.YteecgbgdmfjogaaGreat
set_option maxHeartbeats 4000000
set_option maxRecDepth 20000
open Go.Vm Go.RowKit
attribute [local irreducible] FnAt MutAt InAt JAt CurAt FnE CurE RegAt
structure wz (k : Nat) (w : DWorld) : Prop where
  big : bigW w
  dv : w.Devices.length ≤ 1000
  sub : ∀ d ∈ w.Devices, d.Live.Submitted.length ≤ k ∧ d.Saved.Submitted.length ≤ k
theorem wz.up {k n : Nat} {w : DWorld} (h : wz k w) (hk : k ≤ n) : wz n w := ⟨h.big, h.dv, fun d hd => ⟨Nat.le_trans (h.sub d hd).1 hk, Nat.le_trans (h.sub d hd).2 hk⟩⟩
theorem wz.m {k : Nat} {w : DWorld} (h : wz k w) (hk : k ≤ 1000) : ∀ d ∈ w.Devices, d.Live.Submitted.length ≤ 1048576 ∧ d.Saved.Submitted.length ≤ 1048576 := fun d hd => ⟨by have := (h.sub d hd).1; omega, by have := (h.sub d hd).2; omega⟩
theorem wz.dev {k : Nat} {w : DWorld} (h : wz k w) {n : Nat} (hk : k ≤ n) {f : DDevice → DDevice} {c : Int} (hf : ∀ d ∈ w.Devices, bigD (f d) ∧ (f d).Live.Submitted.length ≤ n ∧ (f d).Saved.Submitted.length ≤ n) : wz n (setDev w c f) := by
  unfold setDev
  split
  · next d hd =>
    have hm : d ∈ w.Devices := List.mem_of_getElem? hd
    obtain ⟨h1, h2, h3, h4⟩ := h.big
    refine ⟨⟨h1, ⟨by show (w.Devices.set _ _).length ≤ _; rw [List.length_set]; exact h2.1, fun x hx => ?_⟩, h3, h4⟩, by show (w.Devices.set _ _).length ≤ _; rw [List.length_set]; exact h.dv, fun x hx => ?_⟩
    · rcases List.mem_or_eq_of_mem_set hx with hx | rfl
      · exact h2.2 x hx
      · exact (hf d hm).1
    · rcases List.mem_or_eq_of_mem_set hx with hx | rfl
      · exact ⟨Nat.le_trans (h.sub x hx).1 hk, Nat.le_trans (h.sub x hx).2 hk⟩
      · exact (hf d hm).2
  · exact ⟨h.big, h.dv, fun d hd => ⟨Nat.le_trans (h.sub d hd).1 hk, Nat.le_trans (h.sub d hd).2 hk⟩⟩
theorem wz.submit {k : Nat} {w : DWorld} (h : wz k w) (hk : k ≤ 1000) (c : Int) {m : List UInt8} (hm : m.length ≤ 1000) : wz (k + 1) (submitW w c m) := by
  unfold submitW
  split
  · refine h.dev (by omega) fun d hd => ?_
    have hb := h.big.2.1.2 d hd
    have hs := h.sub d hd
    unfold submitD
    split
    · refine ⟨⟨bigC_queue hb.1 (by omega) (by omega), bigC_queue hb.2 (by omega) (by omega)⟩, ?_, ?_⟩
      · show (d.Live.Submitted ++ [m]).length ≤ k + 1
        simp; omega
      · show (d.Saved.Submitted ++ [m]).length ≤ k + 1
        simp; omega
    · exact ⟨hb, by omega, by omega⟩
  · exact h.up (by omega)
theorem wz.crash {k : Nat} {w : DWorld} (h : wz k w) (c : Int) : wz k (crashW w c) := by
  unfold crashW
  split
  · refine h.dev (Nat.le_refl _) fun d hd => ?_
    have hb := h.big.2.1.2 d hd
    have hs := h.sub d hd
    unfold crashD
    split
    · exact ⟨⟨hb.2, hb.2⟩, hs.2, hs.2⟩
    · exact ⟨hb, hs⟩
  · exact h
theorem wz.corrupt {k : Nat} {w : DWorld} (h : wz k w) (s b : Int) : wz k (corruptW w s b) := by
  obtain ⟨h1, h2, h3, h4⟩ := h.big
  unfold corruptW
  split
  · split
    · next v hv =>
      have hm : v ∈ w.Servers := List.mem_of_getElem? hv
      refine ⟨⟨⟨by show (w.Servers.set _ _).length ≤ _; rw [List.length_set]; exact h1.1, fun x hx => ?_⟩, h2, h3, h4⟩, h.dv, h.sub⟩
      rcases List.mem_or_eq_of_mem_set hx with hx | rfl
      · exact h1.2 x hx
      · exact h1.2 v hm
    · exact h
  · exact h
theorem wz.new (n s p sd : Int) : wz 0 (newWorld n s p sd) := by
  unfold newWorld
  split
  · next e =>
    simp only [newWOk, Bool.and_eq_true, inR_iff] at e
    refine ⟨⟨⟨?_, fun x hx => ?_⟩, ⟨?_, fun x hx => ?_⟩, ?_, Nat.zero_le _⟩, ?_, fun x hx => ?_⟩
    · show ((List.range s.toNat).map (newServ n)).length ≤ _
      rw [List.length_map, List.length_range]; omega
    · obtain ⟨i, _, rfl⟩ := List.mem_map.1 hx
      have : (newServ n i).Received = [] := newServer_sub _ _ _
      exact ⟨by rw [this]; exact Nat.zero_le _, fun r hr => by rw [this] at hr; cases hr⟩
    · show ((List.range (2 * p).toNat).map (newDev sd)).length ≤ _
      rw [List.length_map, List.length_range]; omega
    · obtain ⟨i, _, rfl⟩ := List.mem_map.1 hx
      exact ⟨newCl_big sd i, newCl_big sd i⟩
    · have : (newArch n).Rounds = [] := by unfold newArch; rfl
      show bigR (newArch n).Rounds
      rw [this]
      exact ⟨Nat.zero_le _, fun r hr => by cases hr⟩
    · show ((List.range (2 * p).toNat).map (newDev sd)).length ≤ _
      rw [List.length_map, List.length_range]; omega
    · obtain ⟨i, _, rfl⟩ := List.mem_map.1 hx
      have : (newCl sd i).Submitted = [] := (newClient_sub _ _ _ _).1
      show (newCl sd i).Submitted.length ≤ 0 ∧ (newCl sd i).Submitted.length ≤ 0
      rw [this]; exact ⟨Nat.le_refl _, Nat.le_refl _⟩
  · exact ⟨⟨⟨Nat.zero_le _, fun x hx => by cases hx⟩, ⟨Nat.zero_le _, fun x hx => by cases hx⟩, ⟨Nat.zero_le _, fun x hx => by cases hx⟩, Nat.zero_le _⟩, Nat.zero_le _, fun x hx => by cases hx⟩
theorem submitW_len (w : DWorld) (c : Int) (m : List UInt8) : (submitW w c m).Servers.length = w.Servers.length ∧ (submitW w c m).Devices.length = w.Devices.length := by
  unfold submitW
  split
  · unfold setDev
    split
    · exact ⟨rfl, List.length_set⟩
    · exact ⟨rfl, rfl⟩
  · exact ⟨rfl, rfl⟩
theorem newWorld_len {n s p sd : Int} (hn : n ∈ ([12, 16] : List Int)) (hs : 0 ≤ s ∧ s < 2) (hp : 0 ≤ p ∧ p < 2) : 1 < (newWorld n (IntKind.i64.wrap (2 + s)) (IntKind.i64.wrap (1 + p)) sd).Servers.length ∧ 1 < (newWorld n (IntKind.i64.wrap (2 + s)) (IntKind.i64.wrap (1 + p)) sd).Devices.length := by
  rw [w64_ok (by omega) (by omega), w64_ok (by omega) (by omega)]
  have h : newWOk n (2 + s) (1 + p) = true := by
    simp only [List.mem_cons, List.not_mem_nil, or_false] at hn
    simp only [newWOk, Bool.and_eq_true, inR_iff]
    omega
  unfold newWorld
  rw [if_pos h]
  constructor
  · show 1 < ((List.range (2 + s).toNat).map (newServ n)).length
    rw [List.length_map, List.length_range]; omega
  · show 1 < ((List.range (2 * (1 + p)).toNat).map (newDev sd)).length
    rw [List.length_map, List.length_range]; omega
attribute [local irreducible] beN cuI cuN beV byV newWorld submitW IntKind.wrap nwC
structure LW where
  n : Int
  w : DWorld
  c : Cu
structure LWok (x : LW) : Prop where
  ok : x.c.ok
  n : 0 ≤ x.n ∧ x.n ≤ 5
  z : wz (5 - x.n.toNat) x.w
  ne : 1 < x.w.Servers.length ∧ 1 < x.w.Devices.length
def stW (x : LW) : St := ⟨[(0, .pin (.ptr 0 0)), (2, .ptr 1 0), (3, .ptr 2 0), (4, vi x.n)], [(0, .box [.anc (L eU x.c.b), .t (I x.c.i), .t (I x.c.h)]), (1, .box [.t (I 0), .nil, .nil, .t (I 0), .nil, .t (I 0), .t (I 0), .t (I 0), .nil, .t (I 0)]), (2, .box [.t (I x.w.Rows), .ref 3, .ref 4, .t (I x.w.Archive.Rows), .ref 5, .t (I x.w.Master), .t (I x.w.Seed), .t (I x.w.Round), .ref 6, .t (I x.w.Cancelled)]), (3, .row true true 5 (x.w.Servers.map DServer.e)), (4, .row true true 16 (x.w.Devices.map DDevice.e)), (5, .row true true 2 (x.w.Archive.Rounds.map DArchivedRound.e)), (6, .row true true 1 (x.w.Replaced.map eI))], 7⟩
theorem LWok.start {v : Int} (hv : 0 ≤ v ∧ v < 5) {w : DWorld} (hw : wz 0 w) (hne : 1 < w.Servers.length ∧ 1 < w.Devices.length) {c : Cu} (hc : c.ok) : LWok ⟨v, w, c⟩ := ⟨hc, by show 0 ≤ v ∧ v ≤ 5; omega, hw.up (Nat.zero_le _), hne⟩
theorem LWok.next {x : LW} (h : LWok x) (hn : 0 < x.n) (a : Int) {m : List UInt8} (hm : m.length ≤ 1000) {c : Cu} (hc : c.ok) : LWok ⟨IntKind.i64.wrap (x.n - 1), submitW x.w a m, c⟩ ∧ (IntKind.i64.wrap (x.n - 1)).toNat < x.n.toNat := by
  have h1 := h.n
  have h2 := h.z.submit (by omega) a hm
  rw [w64_ok (by omega) (by omega)]
  exact ⟨⟨hc, by show 0 ≤ x.n - 1 ∧ x.n - 1 ≤ 5; omega, h2.up (by show 5 - x.n.toNat + 1 ≤ 5 - (x.n - 1).toNat; omega), by show 1 < (submitW x.w a m).Servers.length ∧ 1 < (submitW x.w a m).Devices.length; rw [(submitW_len x.w a m).1, (submitW_len x.w a m).2]; exact h.ne⟩, by omega⟩
theorem byV_4 {c c' : Cu} : (byV c (beV c' 4).toNat).length ≤ 1000 := by
  have := beV_lt (c := c') (n := 4) (by decide)
  rw [byV_len]; omega
theorem e_l32New (c : Cu) (h : c.ok) : CurE Tryz.prog 49 (Cu.e c) [] (DWorld × Cu) (fun x => Cu.e x.2) (fun x => [.agg (DWorld.r x.1)]) (fun x => (wz 5 x.1 ∧ 1 < x.1.Servers.length ∧ 1 < x.1.Devices.length) ∧ x.2.ok) := by
  refine curE_of Tryz.func49 rfl (by kernel_rfl) rfl ?_
  all_goals repeat' (first | (with_reducible rfl) | ((conv => whnf); first | (refine Or.inr ⟨rfl, Or.inl ?_⟩; (conv => whnf); refine inAt_curK ?_ (e_lI c [12, 16] h (by decide) (by decide)) (by rfl) (by rfl) (by rfl); rintro ⟨v1, c1⟩ ⟨h1, hc1⟩) | (refine Or.inr ⟨rfl, Or.inl ?_⟩; (conv => whnf); refine inAt_curK ?_ (e_lW c1 2 hc1 (by decide)) (by rfl) (by rfl) (by rfl); rintro ⟨v2, c2⟩ ⟨h2, hc2⟩) | (have hq := h2; (refine Or.inr ⟨rfl, Or.inl ?_⟩; (conv => whnf); refine inAt_curK ?_ (e_lW c2 2 hc2 (by decide)) (by rfl) (by rfl) (by rfl); rintro ⟨v3, c3⟩ ⟨h3, hc3⟩)) | (refine Or.inr ⟨rfl, Or.inl ?_⟩; (conv => whnf); refine inAt_curK ?_ (e_lW c3 999 hc3 (by decide)) (by rfl) (by rfl) (by rfl); rintro ⟨v4, c4⟩ ⟨h4, hc4⟩) | refine ⟨_, c_sNewWorld v1 (IntKind.i64.wrap (2 + v2)) (IntKind.i64.wrap (1 + v3)) v4, ?_⟩ | (refine Or.inr ⟨rfl, Or.inl ?_⟩; (conv => whnf); refine inAt_curK ?_ (e_lW c4 5 hc4 (by decide)) (by rfl) (by rfl) (by rfl); rintro ⟨v5, c5⟩ ⟨h5, hc5⟩) | exact trivial | (with_reducible rfl) | exact (rfl : (0 : Int) = ((0 : Nat) : Int)) | exact w64_nat arith | refine bcase_T (by first | with_reducible rfl | decide) ?_ | refine bcase_F (by first | with_reducible rfl | decide) ?_ | refine bcase_dec (fun _ => ?_) (fun _ => ?_) | refine bcase_not ?_ | refine bcase_intro (fun _ => ?_) (fun _ => ?_) | refine ⟨(by with_reducible rfl), ?_⟩ | refine ⟨congrArg vi ?_, ?_⟩ | refine ⟨congrArg vb ?_, ?_⟩ | refine ⟨rfl, ?_⟩ | refine ⟨(by kernel_rfl : drawOK _ = true), ?_⟩ | refine Or.inl ?_ | refine ⟨⟨congrArg (T.int _) ?_, rfl⟩, ?_⟩ | refine ⟨⟨congrArg T.bool ?_, rfl⟩, ?_⟩ | refine ⟨⟨rfl, Nat.le_of_ble_eq_true rfl⟩, ?_⟩ | refine ⟨⟨rfl, rfl⟩, ?_⟩ | refine ⟨⟨rfl, (by decide)⟩, ?_⟩ | refine ⟨⟨rfl, ?_⟩, ?_⟩ | refine ⟨Or.inr rfl, ?_⟩ | refine ⟨Or.inl rfl, ?_⟩ | refine ⟨⟨⟨rfl, rfl, rfl⟩, ?_⟩, ?_⟩ | refine ⟨_, _, rfl, row_get _ _ arith, rfl, ?_⟩ | refine ⟨Or.inr (by repeat (first | exact trivial | refine ⟨rfl, ?_⟩)), ?_⟩ | refine ⟨(?_ : _ = ([] : List (List T))), ?_⟩ | fail))
  all_goals (conv => whnf)
  dsimp only at h1 h2 h3 h5 hc5
  refine ⟨LW, LWok, stW, fun x => x.n.toNat, ⟨v5, newWorld v1 (IntKind.i64.wrap (2 + v2)) (IntKind.i64.wrap (1 + v3)) v4, c5⟩, LWok.start h5 (wz.new _ _ _ _) (newWorld_len h1 h2 h3) hc5, sub_at2 [(0, 0, 0), (1, 2, 0), (2, 3, 0), (3, 3, 2), (4, 3, 3), (5, 3, 5), (6, 3, 9)] rfl rfl rfl ?_ ?_, fun x hx => ?_⟩
  case' refine_3 =>
    have hk := hx.ok
    by_cases hn : 0 < x.n
    case pos =>
      all_goals repeat' (first | (with_reducible rfl) | ((conv => whnf); first | refine bcase_T (decide_eq_true hn) ?_ | refine Or.inr ⟨(by kernel_rfl), 0, ⟨_, rfl⟩, ?_⟩ | (refine Or.inl ?_; (conv => whnf); first | refine cur_ex (c_l1Below ?_ ?_ ?_) (by rfl) (by rfl) ?_ | refine cur_ex (c_l1BytesG ?_ ?_ ?_ ?_) (by rfl) (by rfl) ?_) | (show Cu.ok _; repeat (first | assumption | refine beN_ok ?_ | refine cuI_ok ?_ _)) | refine be_small (by decide) (by decide) | (refine Or.inr (?_ : hidO _ _ _ _ _ _ _); (conv => whnf); refine Or.inl ?_; (conv => whnf); refine ⟨_, c_sSubmitMessage x.w _ _ hx.z.big (Nat.le_trans hx.z.dv (by decide)) (hx.z.m (Nat.le_trans (Nat.sub_le _ _) (by decide))) (Nat.le_trans byV_4 (by decide : 1000 ≤ 1099511627776)), ?_⟩) | refine ⟨⟨IntKind.i64.wrap (x.n - 1), submitW x.w (beV x.c ((x.w.Devices.map DDevice.e).length : Int)) (byV (beN (beN x.c ((x.w.Devices.map DDevice.e).length : Int)) 4) (beV (beN x.c ((x.w.Devices.map DDevice.e).length : Int)) 4).toNat), cuI (beN (beN x.c ((x.w.Devices.map DDevice.e).length : Int)) 4) (beV (beN x.c ((x.w.Devices.map DDevice.e).length : Int)) 4).toNat⟩, LWok.next hx hn _ byV_4 (cuI_ok (beN_ok (beN_ok hk)) _), sub_at2 [(0, 0, 0), (1, 2, 0), (2, 3, 0), (3, 3, 2), (4, 3, 3), (5, 3, 5), (6, 3, 9)] rfl rfl rfl ?_ ?_⟩ | exact trivial | (with_reducible rfl) | exact (rfl : (0 : Int) = ((0 : Nat) : Int)) | exact w64_nat arith | refine bcase_T (by first | with_reducible rfl | decide) ?_ | refine bcase_F (by first | with_reducible rfl | decide) ?_ | refine bcase_dec (fun _ => ?_) (fun _ => ?_) | refine bcase_not ?_ | refine bcase_intro (fun _ => ?_) (fun _ => ?_) | refine ⟨(by with_reducible rfl), ?_⟩ | refine ⟨congrArg vi ?_, ?_⟩ | refine ⟨congrArg vb ?_, ?_⟩ | refine ⟨rfl, ?_⟩ | refine ⟨(by kernel_rfl : drawOK _ = true), ?_⟩ | refine Or.inl ?_ | refine ⟨⟨congrArg (T.int _) ?_, rfl⟩, ?_⟩ | refine ⟨⟨congrArg T.bool ?_, rfl⟩, ?_⟩ | refine ⟨⟨rfl, Nat.le_of_ble_eq_true rfl⟩, ?_⟩ | refine ⟨⟨rfl, rfl⟩, ?_⟩ | refine ⟨⟨rfl, (by decide)⟩, ?_⟩ | refine ⟨⟨rfl, ?_⟩, ?_⟩ | refine ⟨Or.inr rfl, ?_⟩ | refine ⟨Or.inl rfl, ?_⟩ | refine ⟨⟨⟨rfl, rfl, rfl⟩, ?_⟩, ?_⟩ | refine ⟨_, _, rfl, row_get _ _ arith, rfl, ?_⟩ | refine ⟨Or.inr (by repeat (first | exact trivial | refine ⟨rfl, ?_⟩)), ?_⟩ | refine ⟨(?_ : _ = ([] : List (List T))), ?_⟩ | fail))
      all_goals (first | rfl | trace_state)
    case neg =>
      all_goals repeat' (first | (with_reducible rfl) | ((conv => whnf); first | refine bcase_F (decide_eq_false hn) ?_ | refine exQ (x.w, x.c) ?_ ⟨⟨hx.z.up (Nat.sub_le _ _), hx.ne⟩, hk⟩ | exact trivial | (with_reducible rfl) | exact (rfl : (0 : Int) = ((0 : Nat) : Int)) | exact w64_nat arith | refine bcase_T (by first | with_reducible rfl | decide) ?_ | refine bcase_F (by first | with_reducible rfl | decide) ?_ | refine bcase_dec (fun _ => ?_) (fun _ => ?_) | refine bcase_not ?_ | refine bcase_intro (fun _ => ?_) (fun _ => ?_) | refine ⟨(by with_reducible rfl), ?_⟩ | refine ⟨congrArg vi ?_, ?_⟩ | refine ⟨congrArg vb ?_, ?_⟩ | refine ⟨rfl, ?_⟩ | refine ⟨(by kernel_rfl : drawOK _ = true), ?_⟩ | refine Or.inl ?_ | refine ⟨⟨congrArg (T.int _) ?_, rfl⟩, ?_⟩ | refine ⟨⟨congrArg T.bool ?_, rfl⟩, ?_⟩ | refine ⟨⟨rfl, Nat.le_of_ble_eq_true rfl⟩, ?_⟩ | refine ⟨⟨rfl, rfl⟩, ?_⟩ | refine ⟨⟨rfl, (by decide)⟩, ?_⟩ | refine ⟨⟨rfl, ?_⟩, ?_⟩ | refine ⟨Or.inr rfl, ?_⟩ | refine ⟨Or.inl rfl, ?_⟩ | refine ⟨⟨⟨rfl, rfl, rfl⟩, ?_⟩, ?_⟩ | refine ⟨_, _, rfl, row_get _ _ arith, rfl, ?_⟩ | refine ⟨Or.inr (by repeat (first | exact trivial | refine ⟨rfl, ?_⟩)), ?_⟩ | refine ⟨(?_ : _ = ([] : List (List T))), ?_⟩ | fail))
      all_goals (first | rfl | trace_state)
  all_goals repeat' (first | (with_reducible rfl) | ((conv => whnf); first | exact trivial | (with_reducible rfl) | exact (rfl : (0 : Int) = ((0 : Nat) : Int)) | exact w64_nat arith | refine bcase_T (by first | with_reducible rfl | decide) ?_ | refine bcase_F (by first | with_reducible rfl | decide) ?_ | refine bcase_dec (fun _ => ?_) (fun _ => ?_) | refine bcase_not ?_ | refine bcase_intro (fun _ => ?_) (fun _ => ?_) | refine ⟨(by with_reducible rfl), ?_⟩ | refine ⟨congrArg vi ?_, ?_⟩ | refine ⟨congrArg vb ?_, ?_⟩ | refine ⟨rfl, ?_⟩ | refine ⟨(by kernel_rfl : drawOK _ = true), ?_⟩ | refine Or.inl ?_ | refine ⟨⟨congrArg (T.int _) ?_, rfl⟩, ?_⟩ | refine ⟨⟨congrArg T.bool ?_, rfl⟩, ?_⟩ | refine ⟨⟨rfl, Nat.le_of_ble_eq_true rfl⟩, ?_⟩ | refine ⟨⟨rfl, rfl⟩, ?_⟩ | refine ⟨⟨rfl, (by decide)⟩, ?_⟩ | refine ⟨⟨rfl, ?_⟩, ?_⟩ | refine ⟨Or.inr rfl, ?_⟩ | refine ⟨Or.inl rfl, ?_⟩ | refine ⟨⟨⟨rfl, rfl, rfl⟩, ?_⟩, ?_⟩ | refine ⟨_, _, rfl, row_get _ _ arith, rfl, ?_⟩ | refine ⟨Or.inr (by repeat (first | exact trivial | refine ⟨rfl, ?_⟩)), ?_⟩ | refine ⟨(?_ : _ = ([] : List (List T))), ?_⟩ | fail))
  all_goals first
    | rfl
    | trace_state
end Go.Proofs.YteecgbgdmfjogaaGreat
