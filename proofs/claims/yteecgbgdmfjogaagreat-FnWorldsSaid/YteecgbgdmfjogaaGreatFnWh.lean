/-
  Contract: a new network is valid and quiet, submitting adds one message, corrupting a server changes its behavior only, for every code.
  Conditions: none.
-/
import Derived.Test.YteecgbgdmfjogaaGreatFnWg
import Derived.Test.YteecgbgdmfjogaaGreatFnWp
import Derived.Test.YteecgbgdmfjogaaGreatFnWs
namespace Go.Proofs.YteecgbgdmfjogaaGreat
set_option maxHeartbeats 4000000
set_option maxRecDepth 20000
open Go.Vm Go.RowKit
attribute [local irreducible] FnAt MutAt InAt JAt CurAt FnE CurE RegAt
theorem submitW_F {w : DWorld} {c : Int} {m : List UInt8} (h : subOk w c m = false) : submitW w c m = w := by unfold submitW; rw [h]; rfl
theorem submitD_sub {d : DDevice} {b : List UInt8} (h : submitOk d b = true) : (submitD d b).Live.Submitted = d.Live.Submitted ++ [b] := by rw [(devOk_submit h).2]; rfl
/-- What is known of a world with one message more. -/
theorem submit_facts {w : DWorld} {cl : Int} {bd : List UInt8} (hs : subOk w cl bd = true) : ∃ (hc : cl.toNat < w.Devices.length) (hx : cl.toNat < (submitW w cl bd).Devices.length) (h0 : 0 < w.Servers.length), 0 ≤ cl ∧ worldOk (submitW w cl bd) = true ∧
    (submitW w cl bd).Devices[cl.toNat].Live.Submitted = w.Devices[cl.toNat].Live.Submitted ++ [bd] ∧
    corruptW (corruptW (submitW w cl bd) 0 3) 0 w.Servers[0].Behavior = submitW w cl bd ∧ corrOk (corruptW (submitW w cl bd) 0 3) 0 w.Servers[0].Behavior = true ∧ corrOk (submitW w cl bd) 0 3 = true ∧
    crashOk (submitW w cl bd) cl = true ∧ worldOk (crashW (submitW w cl bd) cl) = true := by
  obtain ⟨hc, h0c, hwok, hsub, hx, hxok⟩ := submit_ok hs
  have hd : (submitW w cl bd).Devices = w.Devices.set cl.toNat (submitD w.Devices[cl.toNat] bd) := by rw [hx]
  have hsv : (submitW w cl bd).Servers = w.Servers := by rw [hx]
  have hl := worldHd_len ((worldOk_iff _).1 hwok).hd
  have h0 : 0 < w.Servers.length := by omega
  have h0x : 0 < (submitW w cl bd).Servers.length := by rw [hsv]; exact h0
  have hxl : cl.toNat < (submitW w cl bd).Devices.length := by rw [hd, List.length_set]; exact hc
  have he : (submitW w cl bd).Devices[cl.toNat] = submitD w.Devices[cl.toNat] bd := by
    have h1 := List.getElem_of_eq hd hxl
    rw [h1]; exact List.getElem_set_self _
  have hb : w.Servers[0].Behavior = (submitW w cl bd).Servers[0].Behavior := by
    have h1 := List.getElem_of_eq hsv h0x
    rw [h1]
  obtain ⟨k1, k2, k3⟩ := corrupt_back hxok h0x
  obtain ⟨c1, c2⟩ := crash_ok hxok h0c hxl
  exact ⟨hc, hxl, h0, h0c, hxok, by rw [he, submitD_sub hsub], by rw [hb]; exact k1, by rw [hb]; exact k2, k3, c1, c2⟩
theorem wSeeds_lenW (w : DWorld) (c : Int) : (wSeeds w c).length = w.Servers.length - 1 := by unfold wSeeds; rw [List.length_map, List.length_range]
theorem newWOk_T {n s p : Int} (h1 : ¬ n < 1) (h2 : ¬ 64 < n) (h3 : ¬ s < 2) (h4 : ¬ 4 < s) (h5 : ¬ p < 1) (h6 : ¬ 4 < p) : newWOk n s p = true := by
  simp only [newWOk, Bool.and_eq_true, inR_iff]; omega
theorem newWOk_in {n s p : Int} (h : newWOk n s p = true) : (1 ≤ n ∧ n ≤ 64) ∧ (2 ≤ s ∧ s ≤ 4) ∧ 1 ≤ p ∧ p ≤ 4 := by
  simp only [newWOk, Bool.and_eq_true, inR_iff] at h; omega
attribute [local irreducible] newWorld submitW crashW corruptW worldOk worldEq subOk crashOk corrOk wSeeds
theorem c_bigWd (b : List UInt8) : FnAt Tryz.prog 4 [.one (L eU b)] [.one (.s (.bool (decide (1048576 < (b.length : Int)))))] := by
  have hm := lenm eU b
  refine fn_of Tryz.func4 rfl (by kernel_rfl) rfl ?_
  all_goals repeat' (first | (with_reducible rfl) | ((conv => whnf); first | exact trivial | (with_reducible rfl) | exact (rfl : (0 : Int) = ((0 : Nat) : Int)) | exact w64_nat arith | refine bcase_T (by first | with_reducible rfl | decide) ?_ | refine bcase_F (by first | with_reducible rfl | decide) ?_ | refine bcase_dec (fun _ => ?_) (fun _ => ?_) | refine bcase_not ?_ | refine bcase_intro (fun _ => ?_) (fun _ => ?_) | refine ⟨(by with_reducible rfl), ?_⟩ | refine ⟨congrArg vi ?_, ?_⟩ | refine ⟨congrArg vb ?_, ?_⟩ | refine ⟨rfl, ?_⟩ | refine ⟨(by kernel_rfl : drawOK _ = true), ?_⟩ | refine Or.inl ?_ | refine ⟨⟨congrArg (T.int _) ?_, rfl⟩, ?_⟩ | refine ⟨⟨congrArg T.bool ?_, rfl⟩, ?_⟩ | refine ⟨⟨rfl, Nat.le_of_ble_eq_true rfl⟩, ?_⟩ | refine ⟨⟨rfl, rfl⟩, ?_⟩ | refine ⟨⟨rfl, (by decide)⟩, ?_⟩ | refine ⟨⟨rfl, ?_⟩, ?_⟩ | refine ⟨Or.inr rfl, ?_⟩ | refine ⟨Or.inl rfl, ?_⟩ | refine ⟨⟨⟨rfl, rfl, rfl⟩, ?_⟩, ?_⟩ | refine ⟨_, _, rfl, row_get _ _ arith, rfl, ?_⟩ | refine ⟨Or.inr (by repeat (first | exact trivial | refine ⟨rfl, ?_⟩)), ?_⟩ | refine ⟨(?_ : _ = ([] : List (List T))), ?_⟩ | fail))
  all_goals (rw [hm])
theorem c_sameBytesW (xs : List UInt8) (hx : xs.length ≤ 1099511627776) : FnAt Tryz.prog 15 [.one (L eU xs), .one (L eU xs)] [.one (.s (.bool true))] := by
  have hm : (xs.map eU).length = xs.length := List.length_map eU
  refine fn_of Tryz.func15 rfl (by kernel_rfl) rfl ?_
  all_goals repeat' (first | (with_reducible rfl) | ((conv => whnf); first | refine bcase_F (bne_eq_false_iff_eq.2 rfl) ?_ | exact trivial | (with_reducible rfl) | exact (rfl : (0 : Int) = ((0 : Nat) : Int)) | exact w64_nat arith | refine bcase_T (by first | with_reducible rfl | decide) ?_ | refine bcase_F (by first | with_reducible rfl | decide) ?_ | refine bcase_dec (fun _ => ?_) (fun _ => ?_) | refine bcase_not ?_ | refine bcase_intro (fun _ => ?_) (fun _ => ?_) | refine ⟨(by with_reducible rfl), ?_⟩ | refine ⟨congrArg vi ?_, ?_⟩ | refine ⟨congrArg vb ?_, ?_⟩ | refine ⟨rfl, ?_⟩ | refine ⟨(by kernel_rfl : drawOK _ = true), ?_⟩ | refine Or.inl ?_ | refine ⟨⟨congrArg (T.int _) ?_, rfl⟩, ?_⟩ | refine ⟨⟨congrArg T.bool ?_, rfl⟩, ?_⟩ | refine ⟨⟨rfl, Nat.le_of_ble_eq_true rfl⟩, ?_⟩ | refine ⟨⟨rfl, rfl⟩, ?_⟩ | refine ⟨⟨rfl, (by decide)⟩, ?_⟩ | refine ⟨⟨rfl, ?_⟩, ?_⟩ | refine ⟨Or.inr rfl, ?_⟩ | refine ⟨Or.inl rfl, ?_⟩ | refine ⟨⟨⟨rfl, rfl, rfl⟩, ?_⟩, ?_⟩ | refine ⟨_, _, rfl, row_get _ _ arith, rfl, ?_⟩ | refine ⟨Or.inr (by repeat (first | exact trivial | refine ⟨rfl, ?_⟩)), ?_⟩ | refine ⟨(?_ : _ = ([] : List (List T))), ?_⟩ | fail))
  conv => whnf
  refine ⟨Nat, fun i => i ≤ xs.length, fun i => ⟨[(0, vl (xs.map eU)), (1, vl (xs.map eU)), (5, vi i)], [], 0⟩, fun i => xs.length - i, 0, Nat.zero_le _, ⟨[], rfl, rfl, rfl, ?_, ?_⟩, fun i (hi : i ≤ xs.length) => ?_⟩
  all_goals repeat' (first | (with_reducible rfl) | ((conv => whnf); first | refine bcase_F (bne_eq_false_iff_eq.2 rfl) ?_ | refine ⟨i, _, rfl, row_get _ _ (by omega), rfl, ?_⟩ | refine ⟨i + 1, ⟨arith, arith⟩, ⟨[], rfl, rfl, rfl, ?_, ?_⟩⟩ | exact trivial | (with_reducible rfl) | exact (rfl : (0 : Int) = ((0 : Nat) : Int)) | exact w64_nat arith | refine bcase_T (by first | with_reducible rfl | decide) ?_ | refine bcase_F (by first | with_reducible rfl | decide) ?_ | refine bcase_dec (fun _ => ?_) (fun _ => ?_) | refine bcase_not ?_ | refine bcase_intro (fun _ => ?_) (fun _ => ?_) | refine ⟨(by with_reducible rfl), ?_⟩ | refine ⟨congrArg vi ?_, ?_⟩ | refine ⟨congrArg vb ?_, ?_⟩ | refine ⟨rfl, ?_⟩ | refine ⟨(by kernel_rfl : drawOK _ = true), ?_⟩ | refine Or.inl ?_ | refine ⟨⟨congrArg (T.int _) ?_, rfl⟩, ?_⟩ | refine ⟨⟨congrArg T.bool ?_, rfl⟩, ?_⟩ | refine ⟨⟨rfl, Nat.le_of_ble_eq_true rfl⟩, ?_⟩ | refine ⟨⟨rfl, rfl⟩, ?_⟩ | refine ⟨⟨rfl, (by decide)⟩, ?_⟩ | refine ⟨⟨rfl, ?_⟩, ?_⟩ | refine ⟨Or.inr rfl, ?_⟩ | refine ⟨Or.inl rfl, ?_⟩ | refine ⟨⟨⟨rfl, rfl, rfl⟩, ?_⟩, ?_⟩ | refine ⟨_, _, rfl, row_get _ _ arith, rfl, ?_⟩ | refine ⟨Or.inr (by repeat (first | exact trivial | refine ⟨rfl, ?_⟩)), ?_⟩ | refine ⟨(?_ : _ = ([] : List (List T))), ?_⟩ | fail))
theorem newWOk_F {n s p : Int} (h : n < 1 ∨ 64 < n ∨ s < 2 ∨ 4 < s ∨ p < 1 ∨ 4 < p) : newWOk n s p = false := by
  cases h2 : newWOk n s p with
  | false => rfl
  | true =>
    simp only [newWOk, Bool.and_eq_true, inR_iff] at h2
    omega
theorem bad_quiet {n s p sd : Int} (h : newWOk n s p = false) : ((newWorld n s p sd).Servers.map DServer.e).length = 0 ∧ worldOk (newWorld n s p sd) = false := by
  rw [newW_bad h]
  exact ⟨rfl, worldOk_zero⟩
theorem c_FnWorlds (a0 : List UInt8) (_ : a0.length ≤ maxLen) : FnAt Tryz.prog 3 [.one (L eU a0)] [.one (.s (.bool true))] := by
  by_cases hb : a0.length ≤ 1048576
  case neg =>
    refine fn_of Tryz.func3 rfl (by kernel_rfl) rfl ?_
    all_goals repeat' (first | (with_reducible rfl) | ((conv => whnf); first | refine ⟨_, c_bigWd a0, ?_⟩ | refine bcase_T (by rw [decide_eq_true_eq]; omega) ?_ | exact trivial | (with_reducible rfl) | exact (rfl : (0 : Int) = ((0 : Nat) : Int)) | exact w64_nat arith | refine bcase_T (by first | with_reducible rfl | decide) ?_ | refine bcase_F (by first | with_reducible rfl | decide) ?_ | refine bcase_dec (fun _ => ?_) (fun _ => ?_) | refine bcase_not ?_ | refine bcase_intro (fun _ => ?_) (fun _ => ?_) | refine ⟨(by with_reducible rfl), ?_⟩ | refine ⟨congrArg vi ?_, ?_⟩ | refine ⟨congrArg vb ?_, ?_⟩ | refine ⟨rfl, ?_⟩ | refine ⟨(by kernel_rfl : drawOK _ = true), ?_⟩ | refine Or.inl ?_ | refine ⟨⟨congrArg (T.int _) ?_, rfl⟩, ?_⟩ | refine ⟨⟨congrArg T.bool ?_, rfl⟩, ?_⟩ | refine ⟨⟨rfl, Nat.le_of_ble_eq_true rfl⟩, ?_⟩ | refine ⟨⟨rfl, rfl⟩, ?_⟩ | refine ⟨⟨rfl, (by decide)⟩, ?_⟩ | refine ⟨⟨rfl, ?_⟩, ?_⟩ | refine ⟨Or.inr rfl, ?_⟩ | refine ⟨Or.inl rfl, ?_⟩ | refine ⟨⟨⟨rfl, rfl, rfl⟩, ?_⟩, ?_⟩ | refine ⟨_, _, rfl, row_get _ _ arith, rfl, ?_⟩ | refine ⟨Or.inr (by repeat (first | exact trivial | refine ⟨rfl, ?_⟩)), ?_⟩ | refine ⟨(?_ : _ = ([] : List (List T))), ?_⟩ | fail))
  refine fn_of Tryz.func3 rfl (by kernel_rfl) rfl ?_
  all_goals repeat' (first | (with_reducible rfl) | ((conv => whnf); first | refine ⟨_, c_bigWd a0, ?_⟩ | refine bcase_F (by rw [decide_eq_false_iff_not]; omega) ?_ | (refine Or.inr ⟨rfl, Or.inl ?_⟩; (conv => whnf); refine inAt_fnK ?_ (e_DrawNewWorld a0 hb) (by rfl); rintro ⟨r, s, p, sd⟩ _) | exact trivial | (with_reducible rfl) | exact (rfl : (0 : Int) = ((0 : Nat) : Int)) | exact w64_nat arith | refine bcase_T (by first | with_reducible rfl | decide) ?_ | refine bcase_F (by first | with_reducible rfl | decide) ?_ | refine bcase_dec (fun _ => ?_) (fun _ => ?_) | refine bcase_not ?_ | refine bcase_intro (fun _ => ?_) (fun _ => ?_) | refine ⟨(by with_reducible rfl), ?_⟩ | refine ⟨congrArg vi ?_, ?_⟩ | refine ⟨congrArg vb ?_, ?_⟩ | refine ⟨rfl, ?_⟩ | refine ⟨(by kernel_rfl : drawOK _ = true), ?_⟩ | refine Or.inl ?_ | refine ⟨⟨congrArg (T.int _) ?_, rfl⟩, ?_⟩ | refine ⟨⟨congrArg T.bool ?_, rfl⟩, ?_⟩ | refine ⟨⟨rfl, Nat.le_of_ble_eq_true rfl⟩, ?_⟩ | refine ⟨⟨rfl, rfl⟩, ?_⟩ | refine ⟨⟨rfl, (by decide)⟩, ?_⟩ | refine ⟨⟨rfl, ?_⟩, ?_⟩ | refine ⟨Or.inr rfl, ?_⟩ | refine ⟨Or.inl rfl, ?_⟩ | refine ⟨⟨⟨rfl, rfl, rfl⟩, ?_⟩, ?_⟩ | refine ⟨_, _, rfl, row_get _ _ arith, rfl, ?_⟩ | refine ⟨Or.inr (by repeat (first | exact trivial | refine ⟨rfl, ?_⟩)), ?_⟩ | refine ⟨(?_ : _ = ([] : List (List T))), ?_⟩ | fail))
  have hz := wz.new r s p sd
  cases hok : newWOk r s p with
  | false =>
    obtain ⟨hq1, hq2⟩ := bad_quiet (sd := sd) hok
    all_goals repeat' (first | (with_reducible rfl) | ((conv => whnf); first | refine ⟨_, c_NewWorld r s p sd, ?_⟩ | refine ⟨_, c_IsValidWorld (newWorld r s p sd) hz.big, ?_⟩ | refine bcase_T (by show (((newWorld r s p sd).Servers.map DServer.e).length : Int) == 0; rw [hq1]; rfl) ?_ | exact trivial | (with_reducible rfl) | exact (rfl : (0 : Int) = ((0 : Nat) : Int)) | exact w64_nat arith | refine bcase_T (by first | with_reducible rfl | decide) ?_ | refine bcase_F (by first | with_reducible rfl | decide) ?_ | refine bcase_dec (fun _ => ?_) (fun _ => ?_) | refine bcase_not ?_ | refine bcase_intro (fun _ => ?_) (fun _ => ?_) | refine ⟨(by with_reducible rfl), ?_⟩ | refine ⟨congrArg vi ?_, ?_⟩ | refine ⟨congrArg vb ?_, ?_⟩ | refine ⟨rfl, ?_⟩ | refine ⟨(by kernel_rfl : drawOK _ = true), ?_⟩ | refine Or.inl ?_ | refine ⟨⟨congrArg (T.int _) ?_, rfl⟩, ?_⟩ | refine ⟨⟨congrArg T.bool ?_, rfl⟩, ?_⟩ | refine ⟨⟨rfl, Nat.le_of_ble_eq_true rfl⟩, ?_⟩ | refine ⟨⟨rfl, rfl⟩, ?_⟩ | refine ⟨⟨rfl, (by decide)⟩, ?_⟩ | refine ⟨⟨rfl, ?_⟩, ?_⟩ | refine ⟨Or.inr rfl, ?_⟩ | refine ⟨Or.inl rfl, ?_⟩ | refine ⟨⟨⟨rfl, rfl, rfl⟩, ?_⟩, ?_⟩ | refine ⟨_, _, rfl, row_get _ _ arith, rfl, ?_⟩ | refine ⟨Or.inr (by repeat (first | exact trivial | refine ⟨rfl, ?_⟩)), ?_⟩ | refine ⟨(?_ : _ = ([] : List (List T))), ?_⟩ | fail))
    all_goals first
      | (show (!worldOk (newWorld r s p sd)) = true; rw [hq2]; rfl)
      | (exfalso; have e : newWOk r s p = true := newWOk_T (by assumption) (by assumption) (by assumption) (by assumption) (by assumption) (by assumption); rw [hok] at e; cases e)
      | trace_state
  | true =>
    obtain ⟨g1, g2, g3⟩ := newWOk_in hok
    have hv := newW_ok (sd := sd) hok
    have he := worldEq_self (newWorld r s p sd)
    all_goals repeat' (first | (with_reducible rfl) | ((conv => whnf); first | refine ⟨_, c_NewWorld r s p sd, ?_⟩ | refine ⟨_, c_sNewWorld r s p sd, ?_⟩ | refine bcase_F (decide_eq_false (show ¬ (r < 1) from by omega)) ?_ | refine bcase_F (decide_eq_false (show ¬ (64 < r) from by omega)) ?_ | refine bcase_F (decide_eq_false (show ¬ (s < 2) from by omega)) ?_ | refine bcase_F (decide_eq_false (show ¬ (4 < s) from by omega)) ?_ | refine bcase_F (decide_eq_false (show ¬ (p < 1) from by omega)) ?_ | refine bcase_F (decide_eq_false (show ¬ (4 < p) from by omega)) ?_ | refine ⟨_, c_IsValidWorld (newWorld r s p sd) hz.big, ?_⟩ | refine bcase_F (by rw [hv]; rfl) ?_ | refine ⟨_, c_EqualWorlds (newWorld r s p sd) (newWorld r s p sd) hz.big, ?_⟩ | refine bcase_F (by rw [he]; rfl) ?_ | (refine Or.inr ⟨rfl, Or.inl ?_⟩; (conv => whnf); refine inAt_fnK ?_ (e_DrawSubmitMessage a0 hb) (by rfl); rintro ⟨w, cl, bd⟩ ⟨hw, hbd⟩) | exact trivial | (with_reducible rfl) | exact (rfl : (0 : Int) = ((0 : Nat) : Int)) | exact w64_nat arith | refine bcase_T (by first | with_reducible rfl | decide) ?_ | refine bcase_F (by first | with_reducible rfl | decide) ?_ | refine bcase_dec (fun _ => ?_) (fun _ => ?_) | refine bcase_not ?_ | refine bcase_intro (fun _ => ?_) (fun _ => ?_) | refine ⟨(by with_reducible rfl), ?_⟩ | refine ⟨congrArg vi ?_, ?_⟩ | refine ⟨congrArg vb ?_, ?_⟩ | refine ⟨rfl, ?_⟩ | refine ⟨(by kernel_rfl : drawOK _ = true), ?_⟩ | refine Or.inl ?_ | refine ⟨⟨congrArg (T.int _) ?_, rfl⟩, ?_⟩ | refine ⟨⟨congrArg T.bool ?_, rfl⟩, ?_⟩ | refine ⟨⟨rfl, Nat.le_of_ble_eq_true rfl⟩, ?_⟩ | refine ⟨⟨rfl, rfl⟩, ?_⟩ | refine ⟨⟨rfl, (by decide)⟩, ?_⟩ | refine ⟨⟨rfl, ?_⟩, ?_⟩ | refine ⟨Or.inr rfl, ?_⟩ | refine ⟨Or.inl rfl, ?_⟩ | refine ⟨⟨⟨rfl, rfl, rfl⟩, ?_⟩, ?_⟩ | refine ⟨_, _, rfl, row_get _ _ arith, rfl, ?_⟩ | refine ⟨Or.inr (by repeat (first | exact trivial | refine ⟨rfl, ?_⟩)), ?_⟩ | refine ⟨(?_ : _ = ([] : List (List T))), ?_⟩ | fail))
    dsimp only at hw hbd
    have hxz := hw.submit (by decide) cl (m := bd) (by omega)
    have hwm := hw.m (by decide)
    have hdv : w.Devices.length ≤ 1048576 := Nat.le_trans hw.dv (by decide)
    have hbd2 : bd.length ≤ 1099511627776 := by omega
    cases hs : subOk w cl bd with
    | false =>
      have hx := submitW_F hs
      all_goals repeat' (first | (with_reducible rfl) | ((conv => whnf); first | refine ⟨_, c_SubmitMessage w cl bd hw.big hdv hwm hbd2, ?_⟩ | refine ⟨_, c_sSubmitMessage w cl bd hw.big hdv hwm hbd2, ?_⟩ | refine bcase_F (bne_eq_false_iff_eq.2 rfl) ?_ | refine bcase_T (by rw [hs]; rfl) ?_ | refine ⟨_, c_EqualWorlds (submitW w cl bd) w hxz.big, ?_⟩ | exact trivial | (with_reducible rfl) | exact (rfl : (0 : Int) = ((0 : Nat) : Int)) | exact w64_nat arith | refine bcase_T (by first | with_reducible rfl | decide) ?_ | refine bcase_F (by first | with_reducible rfl | decide) ?_ | refine bcase_dec (fun _ => ?_) (fun _ => ?_) | refine bcase_not ?_ | refine bcase_intro (fun _ => ?_) (fun _ => ?_) | refine ⟨(by with_reducible rfl), ?_⟩ | refine ⟨congrArg vi ?_, ?_⟩ | refine ⟨congrArg vb ?_, ?_⟩ | refine ⟨rfl, ?_⟩ | refine ⟨(by kernel_rfl : drawOK _ = true), ?_⟩ | refine Or.inl ?_ | refine ⟨⟨congrArg (T.int _) ?_, rfl⟩, ?_⟩ | refine ⟨⟨congrArg T.bool ?_, rfl⟩, ?_⟩ | refine ⟨⟨rfl, Nat.le_of_ble_eq_true rfl⟩, ?_⟩ | refine ⟨⟨rfl, rfl⟩, ?_⟩ | refine ⟨⟨rfl, (by decide)⟩, ?_⟩ | refine ⟨⟨rfl, ?_⟩, ?_⟩ | refine ⟨Or.inr rfl, ?_⟩ | refine ⟨Or.inl rfl, ?_⟩ | refine ⟨⟨⟨rfl, rfl, rfl⟩, ?_⟩, ?_⟩ | refine ⟨_, _, rfl, row_get _ _ arith, rfl, ?_⟩ | refine ⟨Or.inr (by repeat (first | exact trivial | refine ⟨rfl, ?_⟩)), ?_⟩ | refine ⟨(?_ : _ = ([] : List (List T))), ?_⟩ | fail))
      all_goals first
        | (show worldEq (submitW w cl bd) w = true; rw [hx]; exact worldEq_self w)
        | trace_state
    | true =>
      obtain ⟨hc, hxl, h0, h0c, hxok, hxs, k1, k2, k3, k4, k5⟩ := submit_facts hs
      all_goals repeat' (first | (with_reducible rfl) | ((conv => whnf); first | refine ⟨_, c_SubmitMessage w cl bd hw.big hdv hwm hbd2, ?_⟩ | refine ⟨_, c_sSubmitMessage w cl bd hw.big hdv hwm hbd2, ?_⟩ | refine bcase_F (bne_eq_false_iff_eq.2 rfl) ?_ | refine bcase_F (by rw [hs]; rfl) ?_ | exact trivial | (with_reducible rfl) | exact (rfl : (0 : Int) = ((0 : Nat) : Int)) | exact w64_nat arith | refine bcase_T (by first | with_reducible rfl | decide) ?_ | refine bcase_F (by first | with_reducible rfl | decide) ?_ | refine bcase_dec (fun _ => ?_) (fun _ => ?_) | refine bcase_not ?_ | refine bcase_intro (fun _ => ?_) (fun _ => ?_) | refine ⟨(by with_reducible rfl), ?_⟩ | refine ⟨congrArg vi ?_, ?_⟩ | refine ⟨congrArg vb ?_, ?_⟩ | refine ⟨rfl, ?_⟩ | refine ⟨(by kernel_rfl : drawOK _ = true), ?_⟩ | refine Or.inl ?_ | refine ⟨⟨congrArg (T.int _) ?_, rfl⟩, ?_⟩ | refine ⟨⟨congrArg T.bool ?_, rfl⟩, ?_⟩ | refine ⟨⟨rfl, Nat.le_of_ble_eq_true rfl⟩, ?_⟩ | refine ⟨⟨rfl, rfl⟩, ?_⟩ | refine ⟨⟨rfl, (by decide)⟩, ?_⟩ | refine ⟨⟨rfl, ?_⟩, ?_⟩ | refine ⟨Or.inr rfl, ?_⟩ | refine ⟨Or.inl rfl, ?_⟩ | refine ⟨⟨⟨rfl, rfl, rfl⟩, ?_⟩, ?_⟩ | refine ⟨_, _, rfl, row_get _ _ arith, rfl, ?_⟩ | refine ⟨Or.inr (by repeat (first | exact trivial | refine ⟨rfl, ?_⟩)), ?_⟩ | refine ⟨(?_ : _ = ([] : List (List T))), ?_⟩ | fail))
      generalize submitW w cl bd = X at *
      have hyz := hxz.corrupt 0 3
      have hzz := hyz.corrupt 0 w.Servers[0].Behavior
      have hcz := hxz.crash cl
      have hXdv : X.Devices.length ≤ 1048576 := Nat.le_trans hxz.dv (by decide)
      have hYdv : (corruptW X 0 3).Devices.length ≤ 1048576 := Nat.le_trans hyz.dv (by decide)
      have hel : worldEq (corruptW (corruptW X 0 3) 0 w.Servers[0].Behavior) X = true := by rw [k1]; exact worldEq_self X
      have hln : X.Devices[cl.toNat].Live.Submitted.length = w.Devices[cl.toNat].Live.Submitted.length + 1 := by rw [hxs]; simp
      have hlw : w.Devices[cl.toNat].Live.Submitted.length ≤ 20 := (hw.sub _ (List.getElem_mem hc)).1
      have hlast : ∀ h : w.Devices[cl.toNat].Live.Submitted.length < X.Devices[cl.toNat].Live.Submitted.length, X.Devices[cl.toNat].Live.Submitted[w.Devices[cl.toNat].Live.Submitted.length] = bd := fun h => by
        rw [List.getElem_of_eq hxs h, List.getElem_append_right (Nat.le_refl _)]; simp
      have hsz : X.Devices[cl.toNat].Live.Submitted.length ≤ 21 := by omega
      have hg1 : (((X.Devices[cl.toNat].Live.Submitted.map (eL eU)).length : Int) == IntKind.i64.wrap (((w.Devices[cl.toNat].Live.Submitted.map (eL eU)).length : Int) + 1)) = true := by
        rw [List.length_map, List.length_map, hln, w64_ok (by omega) (by omega)]; simp
      have hg2 : IntKind.i64.wrap (((X.Devices[cl.toNat].Live.Submitted.map (eL eU)).length : Int) - 1) = ((w.Devices[cl.toNat].Live.Submitted.length : Nat) : Int) := by
        rw [List.length_map, hln, w64_ok (by omega) (by omega)]; omega
      have hidx : w.Devices[cl.toNat].Live.Submitted.length < X.Devices[cl.toNat].Live.Submitted.length := by omega
      have hsame : FnAt Tryz.prog 15 [.one (L eU (X.Devices[cl.toNat].Live.Submitted[w.Devices[cl.toNat].Live.Submitted.length]'hidx)), .one (L eU bd)] [.one (.s (.bool true))] := by
        rw [hlast hidx]; exact c_sameBytesW bd hbd2
      have hsl : w.Servers.length ≤ 1099511627776 := hw.big.1.1
      have hend : ((((wSeeds w cl).map eI).length : Int) == IntKind.i64.wrap (((w.Servers.map DServer.e).length : Int) - 1)) = true := by
        rw [List.length_map, List.length_map, wSeeds_lenW, w64_ok (by omega) (by omega), beq_iff_eq]; omega
      all_goals repeat' (first | (with_reducible rfl) | ((conv => whnf); first | refine ⟨cl.toNat, (show cl = ((cl.toNat : Nat) : Int) from by omega), (by first | (show _ < (X.Devices.map DDevice.e).length; rw [List.length_map]; exact hxl) | (show _ < (w.Devices.map DDevice.e).length; rw [List.length_map]; exact hc)), ?_⟩ | refine ⟨_, row_get DDevice.e X.Devices hxl, ?_⟩ | refine ⟨_, row_get DDevice.e w.Devices hc, ?_⟩ | refine ⟨_, c_CorruptServer X 0 3 hxz.big hXdv, ?_⟩ | refine ⟨0, rfl, (by show 0 < (w.Servers.map DServer.e).length; rw [List.length_map]; exact h0), ?_⟩ | refine ⟨_, row_get DServer.e w.Servers h0, ?_⟩ | refine ⟨_, c_CorruptServer (corruptW X 0 3) 0 w.Servers[0].Behavior hyz.big hYdv, ?_⟩ | refine ⟨_, c_CrashClient X cl hxz.big hXdv, ?_⟩ | refine bcase_T hg1 ?_ | refine ⟨_, _, hg2, row_get (eL eU) X.Devices[cl.toNat].Live.Submitted hidx, rfl, ?_⟩ | refine ⟨_, hsame, ?_⟩ | refine ⟨_, c_IsValidWorld X hxz.big, ?_⟩ | refine bcase_T hxok ?_ | refine bcase_T k3 ?_ | refine bcase_T k2 ?_ | refine ⟨_, c_EqualWorlds (corruptW (corruptW X 0 3) 0 w.Servers[0].Behavior) X hzz.big, ?_⟩ | refine bcase_T hel ?_ | refine bcase_T k4 ?_ | refine ⟨_, c_IsValidWorld (crashW X cl) hcz.big, ?_⟩ | refine bcase_T k5 ?_ | refine ⟨_, c_WriteSeeds w cl hsl, ?_⟩ | exact trivial | (with_reducible rfl) | exact (rfl : (0 : Int) = ((0 : Nat) : Int)) | exact w64_nat arith | refine bcase_T (by first | with_reducible rfl | decide) ?_ | refine bcase_F (by first | with_reducible rfl | decide) ?_ | refine bcase_dec (fun _ => ?_) (fun _ => ?_) | refine bcase_not ?_ | refine bcase_intro (fun _ => ?_) (fun _ => ?_) | refine ⟨(by with_reducible rfl), ?_⟩ | refine ⟨congrArg vi ?_, ?_⟩ | refine ⟨congrArg vb ?_, ?_⟩ | refine ⟨rfl, ?_⟩ | refine ⟨(by kernel_rfl : drawOK _ = true), ?_⟩ | refine Or.inl ?_ | refine ⟨⟨congrArg (T.int _) ?_, rfl⟩, ?_⟩ | refine ⟨⟨congrArg T.bool ?_, rfl⟩, ?_⟩ | refine ⟨⟨rfl, Nat.le_of_ble_eq_true rfl⟩, ?_⟩ | refine ⟨⟨rfl, rfl⟩, ?_⟩ | refine ⟨⟨rfl, (by decide)⟩, ?_⟩ | refine ⟨⟨rfl, ?_⟩, ?_⟩ | refine ⟨Or.inr rfl, ?_⟩ | refine ⟨Or.inl rfl, ?_⟩ | refine ⟨⟨⟨rfl, rfl, rfl⟩, ?_⟩, ?_⟩ | refine ⟨_, _, rfl, row_get _ _ arith, rfl, ?_⟩ | refine ⟨Or.inr (by repeat (first | exact trivial | refine ⟨rfl, ?_⟩)), ?_⟩ | refine ⟨(?_ : _ = ([] : List (List T))), ?_⟩ | fail))
      all_goals (first | exact hend | trace_state)
end Go.Proofs.YteecgbgdmfjogaaGreat
