/-
  Contracts: what the cursor draws of devices, known by its size.
  Conditions: none.
-/
import Derived.Test.YtcoipmjboiegoaaFnDk
namespace Go.Proofs.Ytcoipmjboiegoaa
set_option maxHeartbeats 4000000
set_option maxRecDepth 20000
open Go.Vm Go.RowKit
attribute [local irreducible] FnAt MutAt InAt JAt CurAt FnE CurE RegAt
attribute [local irreducible] beN cuI cuN beV byV newClient queueC IntKind.wrap
structure dsiz (d : DDevice) : Prop where
  l : cinv 16 17 d.Live
  s : cinv 16 17 d.Saved
structure dinv (d : DDevice) : Prop where
  z : dsiz d
  l0 : 0 ≤ d.Live.Sent
  s0 : 0 ≤ d.Saved.Sent
theorem dsiz.big {d : DDevice} (h : dsiz d) : bigD d := ⟨h.l.big (by decide) (by decide), h.s.big (by decide) (by decide)⟩
theorem dinv.new {x : DClient} (h : cinv 16 2 x ∧ 0 ≤ x.Sent) : dinv ⟨x, x⟩ :=
  ⟨⟨h.1.mono (Nat.le_refl _) (by decide), h.1.mono (Nat.le_refl _) (by decide)⟩, h.2, h.2⟩
theorem dinv.crash {d : DDevice} (h : dinv d) : dinv (crashD d) := by
  unfold crashD
  split
  · exact ⟨⟨h.z.s, h.z.s⟩, h.s0, h.s0⟩
  · exact h
theorem dinv.submit {d : DDevice} {b : List UInt8} (h : dinv d) (hb : b.length ≤ 64) : dinv (submitD d b) := by
  unfold submitD
  split
  · next e =>
    unfold submitOk at e
    simp only [Bool.and_eq_true] at e
    exact ⟨⟨h.z.l.queue2 e.1.2 hb, h.z.s.queue2 e.2 hb⟩, h.l0, h.s0⟩
  · exact h
theorem dinv.read {d : DDevice} {r : Int} {own other : List UInt8} (h : dinv d) : dinv (readD d r own other) := by
  have h1 : dinv ⟨readC d.Live r own other, d.Saved⟩ := ⟨⟨h.z.l.readB r own other (by decide), h.z.s⟩, readC_sent r own other h.l0, h.s0⟩
  unfold readD
  split
  · split
    · unfold saveD
      split
      · exact ⟨⟨h1.z.l, h1.z.l⟩, h1.l0, h1.l0⟩
      · exact h1
    · exact h1
  · exact h
attribute [local irreducible] crashD submitD readD readDOk submitOk sealCell msgCell dirKey
structure LD where
  n : Int
  d : DDevice
  c : Cu
structure LDok (s : LD) : Prop where
  ok : s.c.ok
  n : 0 ≤ s.n ∧ s.n ≤ 5
  d : dinv s.d
def stD (s : LD) : St := ⟨[(0, .pin (.ptr 0 0)), (2, .ptr 1 0), (3, .ptr 2 0), (4, vi s.n)], [(0, .box [.anc (L eU s.c.b), .t (I s.c.i), .t (I s.c.h)]), (1, .box [.t (I 0), .t (I 0), .t (I 0), .t (I 0), .nil, .t (I 0), .nil, .t (I 0), .t (I 0), .t (I 0), .t (I 0), .t (I 0), .nil, .t (I 0), .nil, .t (I 0)]), (2, .box [.t (I s.d.Live.Id), .t (I s.d.Live.Friend), .t (I s.d.Live.Key), .t (I s.d.Live.Seed), .ref 3, .t (I s.d.Live.Sent), .ref 4, .t (I s.d.Live.Next), .t (I s.d.Saved.Id), .t (I s.d.Saved.Friend), .t (I s.d.Saved.Key), .t (I s.d.Saved.Seed), .ref 5, .t (I s.d.Saved.Sent), .ref 6, .t (I s.d.Saved.Next)]), (3, .row true true 1 (s.d.Live.Submitted.map (eL eU))), (4, .row true true 1 (s.d.Live.Inbox.map (eL eU))), (5, .row true true 1 (s.d.Saved.Submitted.map (eL eU))), (6, .row true true 1 (s.d.Saved.Inbox.map (eL eU)))], 7⟩
theorem LDok.start {x : DClient} {c c' : Cu} (h : cinv 16 2 x ∧ 0 ≤ x.Sent) (hc : c'.ok) : LDok ⟨beV c 5, ⟨x, x⟩, c'⟩ := by
  have h2 := beV_lt (c := c) (n := 5) (by omega)
  exact ⟨hc, by show 0 ≤ beV c 5 ∧ beV c 5 ≤ 5; omega, dinv.new h⟩
theorem LDok.next {s : LD} (h : LDok s) (hn : 0 < s.n) {d : DDevice} {c : Cu} (hd : dinv d) (hc : c.ok) : LDok ⟨IntKind.i64.wrap (s.n - 1), d, c⟩ ∧ (IntKind.i64.wrap (s.n - 1)).toNat < s.n.toNat := by
  have h1 := h.n
  rw [w64_ok (by omega) (by omega)]
  exact ⟨⟨hc, by show 0 ≤ s.n - 1 ∧ s.n - 1 ≤ 5; omega, hd⟩, by omega⟩
theorem e_l30Device (c : Cu) (h : c.ok) : CurE Try.prog 126 (Cu.e c) [] (DDevice × Cu) (fun x => Cu.e x.2) (fun x => [.agg (DDevice.r x.1)]) (fun x => dinv x.1 ∧ x.2.ok) := by
  refine curE_of Try.func126 rfl (by kernel_rfl) rfl ?_
  all_goals repeat' (first
    | (with_reducible rfl)
    | (conv => whnf
       first
         | (show Cu.ok _; repeat (first | assumption | refine beN_ok ?_ | refine cuI_ok ?_ _))
         | (refine Or.inr ⟨rfl, Or.inl ?_⟩; (conv => whnf); refine inAt_cur (c_l1Below ?_ ?_ ?_) (by rfl) (by rfl) (by rfl) ?_)
         | (refine Or.inr ⟨rfl, Or.inl ?_⟩; (conv => whnf); refine inAt_cur (c_l1Once ?_ ?_ ?_) (by rfl) (by rfl) (by rfl) ?_)
         | (refine Or.inr ⟨rfl, Or.inl ?_⟩; (conv => whnf); refine inAt_cur (c_l1BytesG ?_ ?_ ?_ ?_) (by rfl) (by rfl) (by rfl) ?_)
         | refine be_small (by decide) (by decide)
         | (refine Or.inr ⟨rfl, Or.inl ?_⟩; (conv => whnf); refine inAt_curK ?_ (e_l29Client ?_ ?_) (by rfl) (by rfl) (by rfl); rintro ⟨x, c1⟩ ⟨hx, hc1⟩)
         | refine ⟨_, c_sNewDevice _ (hx.1.big (by decide) (by decide)), ?_⟩
         | exact trivial
         | (with_reducible rfl)
         | exact (rfl : (0 : Int) = ((0 : Nat) : Int))
         | exact w64_nat arith
         | refine bcase_T (by first | with_reducible rfl | decide) ?_
         | refine bcase_F (by first | with_reducible rfl | decide) ?_
         | refine bcase_dec (fun _ => ?_) (fun _ => ?_)
         | refine bcase_not ?_
         | refine bcase_intro (fun _ => ?_) (fun _ => ?_)
         | refine ⟨(by with_reducible rfl), ?_⟩
         | refine ⟨congrArg vi ?_, ?_⟩
         | refine ⟨congrArg vb ?_, ?_⟩
         | refine ⟨rfl, ?_⟩
         | refine ⟨(by kernel_rfl : drawOK _ = true), ?_⟩
         | refine Or.inl ?_
         | refine ⟨⟨congrArg (T.int _) ?_, rfl⟩, ?_⟩
         | refine ⟨⟨congrArg T.bool ?_, rfl⟩, ?_⟩
         | refine ⟨⟨rfl, Nat.le_of_ble_eq_true rfl⟩, ?_⟩
         | refine ⟨⟨rfl, rfl⟩, ?_⟩
         | refine ⟨⟨rfl, (by decide)⟩, ?_⟩
         | refine ⟨⟨rfl, ?_⟩, ?_⟩
         | refine ⟨Or.inr rfl, ?_⟩
         | refine ⟨Or.inl rfl, ?_⟩
         | refine ⟨⟨⟨rfl, rfl, rfl⟩, ?_⟩, ?_⟩
         | refine ⟨_, _, rfl, row_get _ _ arith, rfl, ?_⟩
         | refine ⟨Or.inr (by repeat (first | exact trivial | refine ⟨rfl, ?_⟩)), ?_⟩
         | refine ⟨(?_ : _ = ([] : List (List T))), ?_⟩
         | fail))
  all_goals (conv => whnf)
  all_goals refine ⟨LD, LDok, stD, fun s => s.n.toNat, ⟨?_, ⟨x, x⟩, ?_⟩, ?_, sub_at2 [(0, 0, 0), (1, 2, 0), (2, 3, 0), (3, 3, 5), (4, 3, 7), (5, 3, 13), (6, 3, 15)] rfl rfl rfl ?_ ?_, fun s hs => ?_⟩
  all_goals repeat' (first
    | (with_reducible rfl)
    | (conv => whnf
       first
         | refine ⟨Or.inl (by rfl), ?_⟩
         | (have hk := hs.ok; (show Cu.ok _; repeat (first | assumption | refine beN_ok ?_ | refine cuI_ok ?_ _)))
         | refine Or.inr ⟨(by kernel_rfl), 0, ⟨_, rfl⟩, ?_⟩
         | (refine Or.inl ?_; (conv => whnf); first | refine cur_ex (c_l1Below ?_ ?_ ?_) (by rfl) (by rfl) ?_ | refine cur_ex (c_l1BytesG ?_ ?_ ?_ ?_) (by rfl) (by rfl) ?_)
         | (refine Or.inr (?_ : hidO _ _ _ _ _ _ _); (conv => whnf); refine Or.inl ?_; (conv => whnf); refine ⟨_, c_l29Direction _, ?_⟩)
         | (refine Or.inr (?_ : hidO _ _ _ _ _ _ _); (conv => whnf); refine Or.inl ?_; (conv => whnf); refine ⟨_, c_sDirectionKey _ _, ?_⟩)
         | (refine Or.inr (?_ : hidO _ _ _ _ _ _ _); (conv => whnf); refine Or.inl ?_; (conv => whnf); refine ⟨_, c_sSealCell _ _ ⟨1, byV _ _⟩ (by show (byV _ (beV _ 3).toNat).length ≤ 1048576; exact Nat.le_trans (byV_le (by decide) (by decide)) (by decide)), ?_⟩)
         | (refine Or.inr (?_ : hidO _ _ _ _ _ _ _); (conv => whnf); refine Or.inl ?_; (conv => whnf); refine ⟨_, c_sSubmitToDevice s.d _ hs.d.z.big (by have := hs.d.z.l.sub.1; omega) (by have := hs.d.z.s.sub.1; omega) (by rw [byV_len]; decide), ?_⟩)
         | (refine Or.inr (?_ : hidO _ _ _ _ _ _ _); (conv => whnf); refine Or.inl ?_; (conv => whnf); refine ⟨_, c_sReadOnDevice s.d _ _ _ hs.d.z.big ?_ ?_, ?_⟩)
         | (refine Or.inr ⟨rfl, Or.inl ?_⟩; (conv => whnf); refine inAt_cur (c_l1Below ?_ ?_ ?_) (by rfl) (by rfl) (by rfl) ?_)
         | (refine Or.inr ⟨rfl, Or.inl ?_⟩; (conv => whnf); refine inAt_cur (c_l1Once ?_ ?_ ?_) (by rfl) (by rfl) (by rfl) ?_)
         | (refine Or.inr ⟨rfl, Or.inl ?_⟩; (conv => whnf); refine inAt_cur (c_l1BytesG ?_ ?_ ?_ ?_) (by rfl) (by rfl) (by rfl) ?_)
         | refine be_small (by decide) (by decide)
         | refine ⟨_, c_l29Cell s.d.Live hs.d.l0 (cell_h (by assumption) hs.d.l0) (hs.d.z.l.big (by decide) (by decide)) (hs.d.z.l.cell _), ?_⟩
         | refine ⟨_, c_sCrashDevice s.d hs.d.z.big, ?_⟩
         | refine ⟨⟨?_, ?_, ?_⟩, ?_, sub_at2 [(0, 0, 0), (1, 2, 0), (2, 3, 0), (3, 3, 5), (4, 3, 7), (5, 3, 13), (6, 3, 15)] rfl rfl rfl ?_ ?_⟩
         | refine ⟨(s.d, s.c), ?_, ?_⟩
         | exact trivial
         | (with_reducible rfl)
         | exact (rfl : (0 : Int) = ((0 : Nat) : Int))
         | exact w64_nat arith
         | refine bcase_T (by first | with_reducible rfl | decide) ?_
         | refine bcase_F (by first | with_reducible rfl | decide) ?_
         | refine bcase_dec (fun _ => ?_) (fun _ => ?_)
         | refine bcase_not ?_
         | refine bcase_intro (fun _ => ?_) (fun _ => ?_)
         | refine ⟨(by with_reducible rfl), ?_⟩
         | refine ⟨congrArg vi ?_, ?_⟩
         | refine ⟨congrArg vb ?_, ?_⟩
         | refine ⟨rfl, ?_⟩
         | refine ⟨(by kernel_rfl : drawOK _ = true), ?_⟩
         | refine Or.inl ?_
         | refine ⟨⟨congrArg (T.int _) ?_, rfl⟩, ?_⟩
         | refine ⟨⟨congrArg T.bool ?_, rfl⟩, ?_⟩
         | refine ⟨⟨rfl, Nat.le_of_ble_eq_true rfl⟩, ?_⟩
         | refine ⟨⟨rfl, rfl⟩, ?_⟩
         | refine ⟨⟨rfl, (by decide)⟩, ?_⟩
         | refine ⟨⟨rfl, ?_⟩, ?_⟩
         | refine ⟨Or.inr rfl, ?_⟩
         | refine ⟨Or.inl rfl, ?_⟩
         | refine ⟨⟨⟨rfl, rfl, rfl⟩, ?_⟩, ?_⟩
         | refine ⟨_, _, rfl, row_get _ _ arith, rfl, ?_⟩
         | refine ⟨Or.inr (by repeat (first | exact trivial | refine ⟨rfl, ?_⟩)), ?_⟩
         | refine ⟨(?_ : _ = ([] : List (List T))), ?_⟩
         | fail))
  all_goals first
    | exact ⟨by decide, by decide⟩
    | exact LDok.start hx (by show Cu.ok _; repeat (first | assumption | refine beN_ok ?_ | refine cuI_ok ?_ _))
    | (refine LDok.next hs (by assumption) ?_ (by have hk := hs.ok; show Cu.ok _; repeat (first | assumption | refine beN_ok ?_ | refine cuI_ok ?_ _)); first | exact hs.d.crash | exact hs.d.submit (byV_leK (by decide)) | exact hs.d.read)
    | exact ⟨hs.d, hs.ok⟩
    | exact Nat.le_trans (msgCell_le _) (by decide)
    | exact Nat.le_trans (sealCell_le _ _ _) (by decide)
    | exact Nat.le_trans (byV_leK (by decide)) (by decide : 64 ≤ 1099511627776)
    | trace_state
end Go.Proofs.Ytcoipmjboiegoaa
