/-
  Contract: the statement about saved clients.
  Conditions: none.
-/
import Derived.Test.YtcoipmjboiegoaaFnDi
import Derived.Test.YtcoipmjboiegoaaFnDp
namespace Go.Proofs.Ytcoipmjboiegoaa
set_option maxHeartbeats 4000000
set_option maxRecDepth 20000
open Go.Vm Go.RowKit
attribute [local irreducible] FnAt MutAt InAt JAt CurAt FnE CurE RegAt
attribute [local irreducible] crashD submitD readD readDOk submitOk devOk devEq clientEq needsSave saveD rcU
theorem dsz.read {d : DDevice} {r : Int} {own other : List UInt8} (h : dsz d) : dsz (readD d r own other) := by
  have h1 : dsz ⟨readC d.Live r own other, d.Saved⟩ := ⟨h.l.readB r own other (by decide), h.s⟩
  unfold readD
  split
  · split
    · unfold saveD
      split
      · exact ⟨h1.l, h1.l.mono (Nat.le_refl _) (by decide)⟩
      · exact h1
    · exact h1
  · exact h
theorem dsz.submit {d : DDevice} {b : List UInt8} (h : dsz d) (hb : b.length ≤ 64) : dsz (submitD d b) := by
  unfold submitD
  split
  · next e =>
    unfold submitOk at e
    simp only [Bool.and_eq_true] at e
    exact ⟨h.l.queue2 e.1.2 hb, h.s.queue2 e.2 hb⟩
  · exact h
theorem readD_no {d : DDevice} {r : Int} {own other : List UInt8} (h : readDOk d r = false) : readD d r own other = d := by
  unfold readD; rw [h]; rfl
theorem len_lt {l : List (List UInt8)} : (decide ((l.length : Int) < 16) == decide (((l.map (eL eU)).length : Int) < 16)) = true := by
  rw [List.length_map, beq_self_eq_true]
theorem c_bigD (b : List UInt8) : FnAt Try.prog 7 [.one (L eU b)] [.one (.s (.bool (decide (1048576 < (b.length : Int)))))] := by
  have hm : (b.map eU).length = b.length := List.length_map eU
  refine fn_of Try.func7 rfl (by kernel_rfl) rfl ?_
  all_goals repeat' (first
    | (with_reducible rfl)
    | (conv => whnf
       first
         | exact trivial
         | (with_reducible rfl)
         | exact (rfl : (0 : Int) = ((0 : Nat) : Int))
         | exact w64_nat arith
         | refine bcase_T (by first | with_reducible rfl | decide) ?_
         | refine bcase_F (by first | with_reducible rfl | decide) ?_
         | refine bcase_dec (fun _ => ?_) (fun _ => ?_)
         | refine bcase_not ?_
         | refine bcase_intro (fun _ => ?_) (fun _ => ?_)
         | refine ⟨(by with_reducible rfl), ?_⟩
         | refine ⟨congrArg vi ?_, ?_⟩
         | refine ⟨congrArg vb ?_, ?_⟩
         | refine ⟨rfl, ?_⟩
         | refine ⟨(by kernel_rfl : drawOK _ = true), ?_⟩
         | refine Or.inl ?_
         | refine ⟨⟨congrArg (T.int _) ?_, rfl⟩, ?_⟩
         | refine ⟨⟨congrArg T.bool ?_, rfl⟩, ?_⟩
         | refine ⟨⟨rfl, Nat.le_of_ble_eq_true rfl⟩, ?_⟩
         | refine ⟨⟨rfl, rfl⟩, ?_⟩
         | refine ⟨⟨rfl, (by decide)⟩, ?_⟩
         | refine ⟨⟨rfl, ?_⟩, ?_⟩
         | refine ⟨Or.inr rfl, ?_⟩
         | refine ⟨Or.inl rfl, ?_⟩
         | refine ⟨⟨⟨rfl, rfl, rfl⟩, ?_⟩, ?_⟩
         | refine ⟨_, _, rfl, row_get _ _ arith, rfl, ?_⟩
         | refine ⟨Or.inr (by repeat (first | exact trivial | refine ⟨rfl, ?_⟩)), ?_⟩
         | refine ⟨(?_ : _ = ([] : List (List T))), ?_⟩
         | fail))
  all_goals (rw [hm])
set_option maxHeartbeats 40000000
theorem c_FnDevices (a0 : List UInt8) (_ : a0.length ≤ maxLen) : FnAt Try.prog 5 [.one (L eU a0)] [.one (.s (.bool true))] := by
  by_cases hb : a0.length ≤ 1048576
  case neg =>
    refine fn_of Try.func5 rfl (by kernel_rfl) rfl ?_
    all_goals repeat' (first
      | (with_reducible rfl)
      | (conv => whnf
         first
           | refine ⟨_, c_bigD a0, ?_⟩
           | refine bcase_T (by rw [decide_eq_true_eq]; omega) ?_
           | exact trivial
           | (with_reducible rfl)
           | exact (rfl : (0 : Int) = ((0 : Nat) : Int))
           | exact w64_nat arith
           | refine bcase_T (by first | with_reducible rfl | decide) ?_
           | refine bcase_F (by first | with_reducible rfl | decide) ?_
           | refine bcase_dec (fun _ => ?_) (fun _ => ?_)
           | refine bcase_not ?_
           | refine bcase_intro (fun _ => ?_) (fun _ => ?_)
           | refine ⟨(by with_reducible rfl), ?_⟩
           | refine ⟨congrArg vi ?_, ?_⟩
           | refine ⟨congrArg vb ?_, ?_⟩
           | refine ⟨rfl, ?_⟩
           | refine ⟨(by kernel_rfl : drawOK _ = true), ?_⟩
           | refine Or.inl ?_
           | refine ⟨⟨congrArg (T.int _) ?_, rfl⟩, ?_⟩
           | refine ⟨⟨congrArg T.bool ?_, rfl⟩, ?_⟩
           | refine ⟨⟨rfl, Nat.le_of_ble_eq_true rfl⟩, ?_⟩
           | refine ⟨⟨rfl, rfl⟩, ?_⟩
           | refine ⟨⟨rfl, (by decide)⟩, ?_⟩
           | refine ⟨⟨rfl, ?_⟩, ?_⟩
           | refine ⟨Or.inr rfl, ?_⟩
           | refine ⟨Or.inl rfl, ?_⟩
           | refine ⟨⟨⟨rfl, rfl, rfl⟩, ?_⟩, ?_⟩
           | refine ⟨_, _, rfl, row_get _ _ arith, rfl, ?_⟩
           | refine ⟨Or.inr (by repeat (first | exact trivial | refine ⟨rfl, ?_⟩)), ?_⟩
           | refine ⟨(?_ : _ = ([] : List (List T))), ?_⟩
           | fail))
  refine fn_of Try.func5 rfl (by kernel_rfl) rfl ?_
  all_goals repeat' (first
    | (with_reducible rfl)
    | (conv => whnf
       first
         | refine ⟨_, c_bigD a0, ?_⟩
         | refine bcase_F (by rw [decide_eq_false_iff_not]; omega) ?_
         | (refine Or.inr ⟨rfl, Or.inl ?_⟩; (conv => whnf); refine inAt_fnK ?_ (e_DrawReadOnDevice a0 hb) (by rfl); rintro ⟨d, r, own, oth⟩ ⟨hd, ho, hoth⟩; rcases hoth.cases with ⟨ot, rfl, hl⟩ | rfl)
         | exact trivial
         | (with_reducible rfl)
         | exact (rfl : (0 : Int) = ((0 : Nat) : Int))
         | exact w64_nat arith
         | refine bcase_T (by first | with_reducible rfl | decide) ?_
         | refine bcase_F (by first | with_reducible rfl | decide) ?_
         | refine bcase_dec (fun _ => ?_) (fun _ => ?_)
         | refine bcase_not ?_
         | refine bcase_intro (fun _ => ?_) (fun _ => ?_)
         | refine ⟨(by with_reducible rfl), ?_⟩
         | refine ⟨congrArg vi ?_, ?_⟩
         | refine ⟨congrArg vb ?_, ?_⟩
         | refine ⟨rfl, ?_⟩
         | refine ⟨(by kernel_rfl : drawOK _ = true), ?_⟩
         | refine Or.inl ?_
         | refine ⟨⟨congrArg (T.int _) ?_, rfl⟩, ?_⟩
         | refine ⟨⟨congrArg T.bool ?_, rfl⟩, ?_⟩
         | refine ⟨⟨rfl, Nat.le_of_ble_eq_true rfl⟩, ?_⟩
         | refine ⟨⟨rfl, rfl⟩, ?_⟩
         | refine ⟨⟨rfl, (by decide)⟩, ?_⟩
         | refine ⟨⟨rfl, ?_⟩, ?_⟩
         | refine ⟨Or.inr rfl, ?_⟩
         | refine ⟨Or.inl rfl, ?_⟩
         | refine ⟨⟨⟨rfl, rfl, rfl⟩, ?_⟩, ?_⟩
         | refine ⟨_, _, rfl, row_get _ _ arith, rfl, ?_⟩
         | refine ⟨Or.inr (by repeat (first | exact trivial | refine ⟨rfl, ?_⟩)), ?_⟩
         | refine ⟨(?_ : _ = ([] : List (List T))), ?_⟩
         | fail))
  · have hd' : dsz d := hd
    have ho' : own.length ≤ 64 := ho
    have hl' : (ot : List UInt8).length ≤ 65 := hl
    clear hd ho hoth
    have hbd := hd'.big
    dsimp only
    cases hv : devOk d with
    | false =>
      obtain ⟨e1, e2, e3⟩ := devices_bad r own ot hv
      have i0 := c_ReadOnDevice d r own ot hbd (by omega) (by omega)
      rw [e1, e2] at i0
      have i1 := c_sIsValidDevice d hbd
      have i2 := c_EqualDevices d d hbd
      have i3 := c_IsValidDevice d hbd
      have i4 := c_CrashDevice d hbd
      rw [hv] at i1 i3
      rw [devEq_self] at i2
      rw [e3] at i4
      all_goals repeat' (first
        | (with_reducible rfl)
        | (conv => whnf
           first
             | (refine ⟨?_, (?_ : FnAt _ _ _ _), ?_⟩; rotate_left; first | exact i0 | exact i1 | exact i2 | exact i3 | exact i4)
             | exact trivial
             | (with_reducible rfl)
             | exact (rfl : (0 : Int) = ((0 : Nat) : Int))
             | exact w64_nat arith
             | refine bcase_T (by first | with_reducible rfl | decide) ?_
             | refine bcase_F (by first | with_reducible rfl | decide) ?_
             | refine bcase_dec (fun _ => ?_) (fun _ => ?_)
             | refine bcase_not ?_
             | refine bcase_intro (fun _ => ?_) (fun _ => ?_)
             | refine ⟨(by with_reducible rfl), ?_⟩
             | refine ⟨congrArg vi ?_, ?_⟩
             | refine ⟨congrArg vb ?_, ?_⟩
             | refine ⟨rfl, ?_⟩
             | refine ⟨(by kernel_rfl : drawOK _ = true), ?_⟩
             | refine Or.inl ?_
             | refine ⟨⟨congrArg (T.int _) ?_, rfl⟩, ?_⟩
             | refine ⟨⟨congrArg T.bool ?_, rfl⟩, ?_⟩
             | refine ⟨⟨rfl, Nat.le_of_ble_eq_true rfl⟩, ?_⟩
             | refine ⟨⟨rfl, rfl⟩, ?_⟩
             | refine ⟨⟨rfl, (by decide)⟩, ?_⟩
             | refine ⟨⟨rfl, ?_⟩, ?_⟩
             | refine ⟨Or.inr rfl, ?_⟩
             | refine ⟨Or.inl rfl, ?_⟩
             | refine ⟨⟨⟨rfl, rfl, rfl⟩, ?_⟩, ?_⟩
             | refine ⟨_, _, rfl, row_get _ _ arith, rfl, ?_⟩
             | refine ⟨Or.inr (by repeat (first | exact trivial | refine ⟨rfl, ?_⟩)), ?_⟩
             | refine ⟨(?_ : _ = ([] : List (List T))), ?_⟩
             | fail))
    | true =>
      have i0 := c_ReadOnDevice d r own ot hbd (by omega) (by omega)
      have i1 := c_sIsValidDevice d hbd
      rw [hv] at i1
      have hx := readD_ok r own ot hv
      have hsv := readD_saved (d := d) (r := r) own ot
      have hno := readD_no (d := d) (r := r) (own := own) (other := ot)
      have hz := dsz.read (r := r) (own := own) (other := ot) hd'
      generalize readD d r own ot = x at *
      generalize readDOk d r = ok at *
      have hbx := hz.big
      have i2 := c_IsValidDevice x hbx
      rw [hx] at i2
      have i3 := c_NeedsSave x hbx
      have i4 := c_EqualDevices x d hbx
      have hc := crash_live hx
      have hs := save_both hx
      have i5 := c_CrashDevice x hbx
      have i6 := c_SubmitToDevice x [9] hbx (by have := hz.l.sub.1; omega) (by have := hz.s.sub.1; omega) (by decide)
      have i7 := c_CrashDevice (submitD x [9]) (hz.submit (by decide)).big
      have i8 := c_SaveDevice x hbx
      have i9 := c_EqualClients (crashD x).Live x.Saved (by rw [hc]; exact hbx.2)
      rw [show clientEq (crashD x).Live x.Saved = true by rw [hc]; exact clientEq_self _] at i9
      have j0 := c_EqualClients (saveD x).Saved x.Live (by rw [hs]; exact hbx.1)
      rw [show clientEq (saveD x).Saved x.Live = true by rw [hs]; exact clientEq_self _] at j0
      have j1 := c_IsValidDevice (crashD x) (by rw [hc]; exact ⟨hbx.2, hbx.2⟩)
      rw [show devOk (crashD x) = true by rw [hc]; exact devOk_both (devOk_iff.1 hx).2.1] at j1
      have j2 := c_IsValidDevice (saveD x) (by rw [hs]; exact ⟨hbx.1, hbx.1⟩)
      have hvs : devOk (saveD x) = true := by rw [hs]; exact devOk_both (devOk_iff.1 hx).1
      rw [hvs] at j2
      have hcs : crashD (saveD x) = saveD x := by rw [crash_live hvs, hs]
      have j3 := c_CrashDevice (saveD x) (by rw [hs]; exact ⟨hbx.1, hbx.1⟩)
      rw [hcs] at j3
      have j4 := c_EqualDevices (saveD x) (saveD x) (by rw [hs]; exact ⟨hbx.1, hbx.1⟩)
      rw [devEq_self] at j4
      have q1 := submitOk_eq (b := [9]) hx (by decide)
      have q2 := crash_submit (x := x) (b := [9])
      have hsz := hz.l.sub.1
      clear hc hs hvs hcs
      generalize crashD (submitD x [9]) = z at *
      generalize submitD x [9] = y at *
      generalize submitOk x [9] = fine at *
      generalize crashD x = cx at *
      generalize saveD x = sx at *
      have hm : (x.Live.Submitted.map (eL eU)).length = x.Live.Submitted.length := List.length_map _
      have hmz : (z.Live.Submitted.map (eL eU)).length = z.Live.Submitted.length := List.length_map _
      clear hv hx hz hd' ho' hl' hbd hbx
      cases ok with
      | false =>
        have e4 : devEq x d = true := by rw [hno rfl]; exact devEq_self d
        rw [e4] at i4
        clear hno hsv
        all_goals repeat' (first
          | (with_reducible rfl)
          | (conv => whnf
             first
               | (refine ⟨?_, (?_ : FnAt _ _ _ _), ?_⟩; rotate_left; first | exact i0 | exact i1 | exact i2 | exact i3 | exact i4 | exact i5 | exact i6 | exact i7 | exact i8 | exact i9 | exact j0 | exact j1 | exact j2 | exact j3 | exact j4)
               | refine bcase_T (by first | (rw [hm, ← q1]; exact beq_self_eq_true _) | (have q3 := q2 (by assumption); rw [decide_eq_true_eq, hmz, hm, w64_ok (by omega) (by omega)]; omega)) ?_
               | exact trivial
               | (with_reducible rfl)
               | exact (rfl : (0 : Int) = ((0 : Nat) : Int))
               | exact w64_nat arith
               | refine bcase_T (by first | with_reducible rfl | decide) ?_
               | refine bcase_F (by first | with_reducible rfl | decide) ?_
               | refine bcase_dec (fun _ => ?_) (fun _ => ?_)
               | refine bcase_not ?_
               | refine bcase_intro (fun _ => ?_) (fun _ => ?_)
               | refine ⟨(by with_reducible rfl), ?_⟩
               | refine ⟨congrArg vi ?_, ?_⟩
               | refine ⟨congrArg vb ?_, ?_⟩
               | refine ⟨rfl, ?_⟩
               | refine ⟨(by kernel_rfl : drawOK _ = true), ?_⟩
               | refine Or.inl ?_
               | refine ⟨⟨congrArg (T.int _) ?_, rfl⟩, ?_⟩
               | refine ⟨⟨congrArg T.bool ?_, rfl⟩, ?_⟩
               | refine ⟨⟨rfl, Nat.le_of_ble_eq_true rfl⟩, ?_⟩
               | refine ⟨⟨rfl, rfl⟩, ?_⟩
               | refine ⟨⟨rfl, (by decide)⟩, ?_⟩
               | refine ⟨⟨rfl, ?_⟩, ?_⟩
               | refine ⟨Or.inr rfl, ?_⟩
               | refine ⟨Or.inl rfl, ?_⟩
               | refine ⟨⟨⟨rfl, rfl, rfl⟩, ?_⟩, ?_⟩
               | refine ⟨_, _, rfl, row_get _ _ arith, rfl, ?_⟩
               | refine ⟨Or.inr (by repeat (first | exact trivial | refine ⟨rfl, ?_⟩)), ?_⟩
               | refine ⟨(?_ : _ = ([] : List (List T))), ?_⟩
               | fail))
        all_goals first | rfl | (exfalso; have q3 := q2 (by assumption); rename_i hz; apply hz; rw [hmz, hm, w64_ok (by omega) (by omega)]; omega)
      | true =>
        rw [hsv rfl] at i3
        clear hno hsv
        all_goals repeat' (first
          | (with_reducible rfl)
          | (conv => whnf
             first
               | (refine ⟨?_, (?_ : FnAt _ _ _ _), ?_⟩; rotate_left; first | exact i0 | exact i1 | exact i2 | exact i3 | exact i4 | exact i5 | exact i6 | exact i7 | exact i8 | exact i9 | exact j0 | exact j1 | exact j2 | exact j3 | exact j4)
               | refine bcase_T (by first | (rw [hm, ← q1]; exact beq_self_eq_true _) | (have q3 := q2 (by assumption); rw [decide_eq_true_eq, hmz, hm, w64_ok (by omega) (by omega)]; omega)) ?_
               | exact trivial
               | (with_reducible rfl)
               | exact (rfl : (0 : Int) = ((0 : Nat) : Int))
               | exact w64_nat arith
               | refine bcase_T (by first | with_reducible rfl | decide) ?_
               | refine bcase_F (by first | with_reducible rfl | decide) ?_
               | refine bcase_dec (fun _ => ?_) (fun _ => ?_)
               | refine bcase_not ?_
               | refine bcase_intro (fun _ => ?_) (fun _ => ?_)
               | refine ⟨(by with_reducible rfl), ?_⟩
               | refine ⟨congrArg vi ?_, ?_⟩
               | refine ⟨congrArg vb ?_, ?_⟩
               | refine ⟨rfl, ?_⟩
               | refine ⟨(by kernel_rfl : drawOK _ = true), ?_⟩
               | refine Or.inl ?_
               | refine ⟨⟨congrArg (T.int _) ?_, rfl⟩, ?_⟩
               | refine ⟨⟨congrArg T.bool ?_, rfl⟩, ?_⟩
               | refine ⟨⟨rfl, Nat.le_of_ble_eq_true rfl⟩, ?_⟩
               | refine ⟨⟨rfl, rfl⟩, ?_⟩
               | refine ⟨⟨rfl, (by decide)⟩, ?_⟩
               | refine ⟨⟨rfl, ?_⟩, ?_⟩
               | refine ⟨Or.inr rfl, ?_⟩
               | refine ⟨Or.inl rfl, ?_⟩
               | refine ⟨⟨⟨rfl, rfl, rfl⟩, ?_⟩, ?_⟩
               | refine ⟨_, _, rfl, row_get _ _ arith, rfl, ?_⟩
               | refine ⟨Or.inr (by repeat (first | exact trivial | refine ⟨rfl, ?_⟩)), ?_⟩
               | refine ⟨(?_ : _ = ([] : List (List T))), ?_⟩
               | fail))
        all_goals first | rfl | (exfalso; have q3 := q2 (by assumption); rename_i hz; apply hz; rw [hmz, hm, w64_ok (by omega) (by omega)]; omega)
  · have hd' : dsz d := hd
    have ho' : own.length ≤ 64 := ho
    have hl' : ([] : List UInt8).length ≤ 65 := (by decide)
    clear hd ho hoth
    have hbd := hd'.big
    dsimp only
    cases hv : devOk d with
    | false =>
      obtain ⟨e1, e2, e3⟩ := devices_bad r own [] hv
      have i0 := c_ReadOnDevice d r own [] hbd (by omega) (by omega)
      rw [e1, e2] at i0
      have i1 := c_sIsValidDevice d hbd
      have i2 := c_EqualDevices d d hbd
      have i3 := c_IsValidDevice d hbd
      have i4 := c_CrashDevice d hbd
      rw [hv] at i1 i3
      rw [devEq_self] at i2
      rw [e3] at i4
      all_goals repeat' (first
        | (with_reducible rfl)
        | (conv => whnf
           first
             | (refine ⟨?_, (?_ : FnAt _ _ _ _), ?_⟩; rotate_left; first | exact i0 | exact i1 | exact i2 | exact i3 | exact i4)
             | exact trivial
             | (with_reducible rfl)
             | exact (rfl : (0 : Int) = ((0 : Nat) : Int))
             | exact w64_nat arith
             | refine bcase_T (by first | with_reducible rfl | decide) ?_
             | refine bcase_F (by first | with_reducible rfl | decide) ?_
             | refine bcase_dec (fun _ => ?_) (fun _ => ?_)
             | refine bcase_not ?_
             | refine bcase_intro (fun _ => ?_) (fun _ => ?_)
             | refine ⟨(by with_reducible rfl), ?_⟩
             | refine ⟨congrArg vi ?_, ?_⟩
             | refine ⟨congrArg vb ?_, ?_⟩
             | refine ⟨rfl, ?_⟩
             | refine ⟨(by kernel_rfl : drawOK _ = true), ?_⟩
             | refine Or.inl ?_
             | refine ⟨⟨congrArg (T.int _) ?_, rfl⟩, ?_⟩
             | refine ⟨⟨congrArg T.bool ?_, rfl⟩, ?_⟩
             | refine ⟨⟨rfl, Nat.le_of_ble_eq_true rfl⟩, ?_⟩
             | refine ⟨⟨rfl, rfl⟩, ?_⟩
             | refine ⟨⟨rfl, (by decide)⟩, ?_⟩
             | refine ⟨⟨rfl, ?_⟩, ?_⟩
             | refine ⟨Or.inr rfl, ?_⟩
             | refine ⟨Or.inl rfl, ?_⟩
             | refine ⟨⟨⟨rfl, rfl, rfl⟩, ?_⟩, ?_⟩
             | refine ⟨_, _, rfl, row_get _ _ arith, rfl, ?_⟩
             | refine ⟨Or.inr (by repeat (first | exact trivial | refine ⟨rfl, ?_⟩)), ?_⟩
             | refine ⟨(?_ : _ = ([] : List (List T))), ?_⟩
             | fail))
    | true =>
      have i0 := c_ReadOnDevice d r own [] hbd (by omega) (by omega)
      have i1 := c_sIsValidDevice d hbd
      rw [hv] at i1
      have hx := readD_ok r own [] hv
      have hsv := readD_saved (d := d) (r := r) own []
      have hno := readD_no (d := d) (r := r) (own := own) (other := [])
      have hz := dsz.read (r := r) (own := own) (other := []) hd'
      generalize readD d r own [] = x at *
      generalize readDOk d r = ok at *
      have hbx := hz.big
      have i2 := c_IsValidDevice x hbx
      rw [hx] at i2
      have i3 := c_NeedsSave x hbx
      have i4 := c_EqualDevices x d hbx
      have hc := crash_live hx
      have hs := save_both hx
      have i5 := c_CrashDevice x hbx
      have i6 := c_SubmitToDevice x [9] hbx (by have := hz.l.sub.1; omega) (by have := hz.s.sub.1; omega) (by decide)
      have i7 := c_CrashDevice (submitD x [9]) (hz.submit (by decide)).big
      have i8 := c_SaveDevice x hbx
      have i9 := c_EqualClients (crashD x).Live x.Saved (by rw [hc]; exact hbx.2)
      rw [show clientEq (crashD x).Live x.Saved = true by rw [hc]; exact clientEq_self _] at i9
      have j0 := c_EqualClients (saveD x).Saved x.Live (by rw [hs]; exact hbx.1)
      rw [show clientEq (saveD x).Saved x.Live = true by rw [hs]; exact clientEq_self _] at j0
      have j1 := c_IsValidDevice (crashD x) (by rw [hc]; exact ⟨hbx.2, hbx.2⟩)
      rw [show devOk (crashD x) = true by rw [hc]; exact devOk_both (devOk_iff.1 hx).2.1] at j1
      have j2 := c_IsValidDevice (saveD x) (by rw [hs]; exact ⟨hbx.1, hbx.1⟩)
      have hvs : devOk (saveD x) = true := by rw [hs]; exact devOk_both (devOk_iff.1 hx).1
      rw [hvs] at j2
      have hcs : crashD (saveD x) = saveD x := by rw [crash_live hvs, hs]
      have j3 := c_CrashDevice (saveD x) (by rw [hs]; exact ⟨hbx.1, hbx.1⟩)
      rw [hcs] at j3
      have j4 := c_EqualDevices (saveD x) (saveD x) (by rw [hs]; exact ⟨hbx.1, hbx.1⟩)
      rw [devEq_self] at j4
      have q1 := submitOk_eq (b := [9]) hx (by decide)
      have q2 := crash_submit (x := x) (b := [9])
      have hsz := hz.l.sub.1
      clear hc hs hvs hcs
      generalize crashD (submitD x [9]) = z at *
      generalize submitD x [9] = y at *
      generalize submitOk x [9] = fine at *
      generalize crashD x = cx at *
      generalize saveD x = sx at *
      have hm : (x.Live.Submitted.map (eL eU)).length = x.Live.Submitted.length := List.length_map _
      have hmz : (z.Live.Submitted.map (eL eU)).length = z.Live.Submitted.length := List.length_map _
      clear hv hx hz hd' ho' hl' hbd hbx
      cases ok with
      | false =>
        have e4 : devEq x d = true := by rw [hno rfl]; exact devEq_self d
        rw [e4] at i4
        clear hno hsv
        all_goals repeat' (first
          | (with_reducible rfl)
          | (conv => whnf
             first
               | (refine ⟨?_, (?_ : FnAt _ _ _ _), ?_⟩; rotate_left; first | exact i0 | exact i1 | exact i2 | exact i3 | exact i4 | exact i5 | exact i6 | exact i7 | exact i8 | exact i9 | exact j0 | exact j1 | exact j2 | exact j3 | exact j4)
               | refine bcase_T (by first | (rw [hm, ← q1]; exact beq_self_eq_true _) | (have q3 := q2 (by assumption); rw [decide_eq_true_eq, hmz, hm, w64_ok (by omega) (by omega)]; omega)) ?_
               | exact trivial
               | (with_reducible rfl)
               | exact (rfl : (0 : Int) = ((0 : Nat) : Int))
               | exact w64_nat arith
               | refine bcase_T (by first | with_reducible rfl | decide) ?_
               | refine bcase_F (by first | with_reducible rfl | decide) ?_
               | refine bcase_dec (fun _ => ?_) (fun _ => ?_)
               | refine bcase_not ?_
               | refine bcase_intro (fun _ => ?_) (fun _ => ?_)
               | refine ⟨(by with_reducible rfl), ?_⟩
               | refine ⟨congrArg vi ?_, ?_⟩
               | refine ⟨congrArg vb ?_, ?_⟩
               | refine ⟨rfl, ?_⟩
               | refine ⟨(by kernel_rfl : drawOK _ = true), ?_⟩
               | refine Or.inl ?_
               | refine ⟨⟨congrArg (T.int _) ?_, rfl⟩, ?_⟩
               | refine ⟨⟨congrArg T.bool ?_, rfl⟩, ?_⟩
               | refine ⟨⟨rfl, Nat.le_of_ble_eq_true rfl⟩, ?_⟩
               | refine ⟨⟨rfl, rfl⟩, ?_⟩
               | refine ⟨⟨rfl, (by decide)⟩, ?_⟩
               | refine ⟨⟨rfl, ?_⟩, ?_⟩
               | refine ⟨Or.inr rfl, ?_⟩
               | refine ⟨Or.inl rfl, ?_⟩
               | refine ⟨⟨⟨rfl, rfl, rfl⟩, ?_⟩, ?_⟩
               | refine ⟨_, _, rfl, row_get _ _ arith, rfl, ?_⟩
               | refine ⟨Or.inr (by repeat (first | exact trivial | refine ⟨rfl, ?_⟩)), ?_⟩
               | refine ⟨(?_ : _ = ([] : List (List T))), ?_⟩
               | fail))
        all_goals first | rfl | (exfalso; have q3 := q2 (by assumption); rename_i hz; apply hz; rw [hmz, hm, w64_ok (by omega) (by omega)]; omega)
      | true =>
        rw [hsv rfl] at i3
        clear hno hsv
        all_goals repeat' (first
          | (with_reducible rfl)
          | (conv => whnf
             first
               | (refine ⟨?_, (?_ : FnAt _ _ _ _), ?_⟩; rotate_left; first | exact i0 | exact i1 | exact i2 | exact i3 | exact i4 | exact i5 | exact i6 | exact i7 | exact i8 | exact i9 | exact j0 | exact j1 | exact j2 | exact j3 | exact j4)
               | refine bcase_T (by first | (rw [hm, ← q1]; exact beq_self_eq_true _) | (have q3 := q2 (by assumption); rw [decide_eq_true_eq, hmz, hm, w64_ok (by omega) (by omega)]; omega)) ?_
               | exact trivial
               | (with_reducible rfl)
               | exact (rfl : (0 : Int) = ((0 : Nat) : Int))
               | exact w64_nat arith
               | refine bcase_T (by first | with_reducible rfl | decide) ?_
               | refine bcase_F (by first | with_reducible rfl | decide) ?_
               | refine bcase_dec (fun _ => ?_) (fun _ => ?_)
               | refine bcase_not ?_
               | refine bcase_intro (fun _ => ?_) (fun _ => ?_)
               | refine ⟨(by with_reducible rfl), ?_⟩
               | refine ⟨congrArg vi ?_, ?_⟩
               | refine ⟨congrArg vb ?_, ?_⟩
               | refine ⟨rfl, ?_⟩
               | refine ⟨(by kernel_rfl : drawOK _ = true), ?_⟩
               | refine Or.inl ?_
               | refine ⟨⟨congrArg (T.int _) ?_, rfl⟩, ?_⟩
               | refine ⟨⟨congrArg T.bool ?_, rfl⟩, ?_⟩
               | refine ⟨⟨rfl, Nat.le_of_ble_eq_true rfl⟩, ?_⟩
               | refine ⟨⟨rfl, rfl⟩, ?_⟩
               | refine ⟨⟨rfl, (by decide)⟩, ?_⟩
               | refine ⟨⟨rfl, ?_⟩, ?_⟩
               | refine ⟨Or.inr rfl, ?_⟩
               | refine ⟨Or.inl rfl, ?_⟩
               | refine ⟨⟨⟨rfl, rfl, rfl⟩, ?_⟩, ?_⟩
               | refine ⟨_, _, rfl, row_get _ _ arith, rfl, ?_⟩
               | refine ⟨Or.inr (by repeat (first | exact trivial | refine ⟨rfl, ?_⟩)), ?_⟩
               | refine ⟨(?_ : _ = ([] : List (List T))), ?_⟩
               | fail))
        all_goals first | rfl | (exfalso; have q3 := q2 (by assumption); rename_i hz; apply hz; rw [hmz, hm, w64_ok (by omega) (by omega)]; omega)
end Go.Proofs.Ytcoipmjboiegoaa
