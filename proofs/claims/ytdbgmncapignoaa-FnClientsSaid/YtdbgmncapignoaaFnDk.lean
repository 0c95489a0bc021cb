/-
  Contract: what a code draws of clients and reads, known by its size.
  Conditions: none.
-/
import Derived.Test.YtdbgmncapignoaaFnDf
import Derived.Test.YtdbgmncapignoaaVmAj
namespace Go.Proofs.Ytdbgmncapignoaa
set_option maxHeartbeats 4000000
set_option maxRecDepth 20000
open Go.Vm Go.RowKit
attribute [local irreducible] FnAt MutAt InAt JAt CurAt FnE CurE RegAt
attribute [local irreducible] beN cuI cuN beV byV newClient queueC IntKind.wrap
theorem cinv.queue2 {m : Nat} {x : DClient} {b : List UInt8} (h : cinv 16 m x) (hq : queued x b = true) (hb : b.length ≤ 64) : cinv 16 m (Go.Proofs.Ytdbgmncapignoaa.queue x b) := by
  have h1 := cinv.queue h hb
  unfold queueC at h1
  rwa [if_pos hq] at h1
theorem cinv.readB {m : Nat} {x : DClient} (r : Int) (own other : List UInt8) (h : cinv 16 m x) (hm : 16 ≤ m) : cinv 16 m (readC x r own other) := by
  unfold readC
  split
  · refine ⟨h.sub, ?_, ?_⟩
    · show (readInbox x other).length ≤ m
      unfold readInbox
      split
      · next e =>
        simp only [readTake, Bool.and_eq_true, decide_eq_true_eq] at e
        simp only [List.length_append, List.length_cons, List.length_nil]
        omega
      · exact h.inb.1
    · show ∀ y ∈ readInbox x other, y.length ≤ 64
      unfold readInbox
      split
      · intro y hy
        rcases List.mem_append.1 hy with hy | hy
        · exact h.inb.2 y hy
        · rw [List.mem_singleton.1 hy]; have := readOpen_len x other; omega
      · exact h.inb.2
  · exact h
theorem readC_sent {x : DClient} (r : Int) (own other : List UInt8) (h : 0 ≤ x.Sent) : 0 ≤ (readC x r own other).Sent := by
  unfold readC
  split
  · show 0 ≤ readSent x own
    unfold readSent
    split
    · split <;> omega
    · exact h
  · exact h
theorem sealCell_le (k c : Int) (p : DPlain) : (sealCell k c p).length ≤ 64 := by
  unfold sealCell
  split
  · next h =>
    simp only [sealOk, plainOk, Bool.and_eq_true, decide_eq_true_eq] at h
    have h1 := sealPlain_len (khash k [61, c]) p
    have h2 := h.2.2
    have h4 := encB_len (cellKey k c) (sealPlain (khash k [61, c]) p)
    rw [List.length_append, bytes4_len, sealData, h4]
    omega
  · exact Nat.zero_le _
theorem msgCell_le {x : DClient} (h : x.Sent.toNat < x.Submitted.length) : (msgCell x h).length ≤ 64 := by
  unfold msgCell; exact sealCell_le _ _ _
theorem cell_h {x : DClient} (h : x.Sent < ((x.Submitted.map (eL eU)).length : Int)) (h0 : 0 ≤ x.Sent) : x.Sent.toNat < x.Submitted.length := by
  rw [List.length_map] at h; omega
theorem cinv.cell {n m : Nat} {x : DClient} (h : cinv n m x) (hc : x.Sent.toNat < x.Submitted.length) : (x.Submitted[x.Sent.toNat]).length ≤ 1048576 := by
  have := h.sub.2 _ (List.getElem_mem hc); omega
theorem byV_le {c c' : Cu} {n : Int} (h : 0 < n) (h2 : n ≤ 64) : (byV c (beV c' n).toNat).length ≤ 64 := by
  have := beV_lt (c := c') h
  rw [byV_len]; omega
theorem byV_leK {c : Cu} {n : Nat} (h2 : n ≤ 64) : (byV c n).length ≤ 64 := by rw [byV_len]; omega
attribute [local irreducible] sealCell msgCell dirKey nwC rcU
theorem nwC_okD {b : List UInt8} (h : b.length ≤ 1048576) : (nwC b).ok := by unfold nwC; exact ⟨h, Nat.zero_le _⟩
theorem curE_map {P : Program} {f : FuncId} {cs : List T} {xs : List V} {X Y : Type} {cs' : X → List T} {rs : X → List RV} {Q : X → Prop} {cs2 : Y → List T} {rs2 : Y → List RV} {Q2 : Y → Prop}
    (h : CurE P f cs xs X cs' rs Q) (hm : ∀ x, Q x → ∃ y, Q2 y ∧ cs' x = cs2 y ∧ rs x = rs2 y) : CurE P f cs xs Y cs2 rs2 Q2 := by
  unfold CurE at h ⊢
  refine ⟨h.1, fun w g us e F vs h1 h2 h3 h4 => (h.2 w g us e F vs h1 h2 h3 h4).mono ?_⟩
  rintro ex w' ⟨x, hq, hp⟩
  obtain ⟨y, hy, e1, e2⟩ := hm x hq
  rw [e1, e2] at hp
  exact ⟨y, hy, hp⟩
theorem rcU.cases {n : Nat} {r : RC} (h : rcU n r) : (∃ l : List UInt8, r = .l 1 (l.map eU) ∧ l.length ≤ n) ∨ r = .s (L eU []) := by
  unfold rcU at h; exact h
theorem rcU.rows {n : Nat} {l : List UInt8} (h : l.length ≤ n) : rcU n (.l 1 (l.map eU)) := rcU.of ⟨l, rfl, h⟩
theorem rcU.up {n m : Nat} {r : RC} (h : rcU n r) (hm : n ≤ m) : rcU m r := by
  rcases h.cases with ⟨l, rfl, hl⟩ | rfl
  · exact rcU.rows (Nat.le_trans hl hm)
  · exact rcU.nil
theorem FC.ok.to {x : FC} (h : x.ok) : ∃ y : DClient × Cu, (cinv 16 17 y.1 ∧ y.2.ok) ∧ Cu.e x.c = Cu.e y.2 ∧ [RV.agg x.r] = [RV.agg (DClient.r y.1)] := by
  obtain ⟨⟨l, e1, h1, h2⟩, ⟨m, e2, h3, h4⟩, h5⟩ := h
  exact ⟨(⟨x.a1, x.a2, x.a3, x.a4, l, x.a5, m, x.a6⟩, x.c), ⟨⟨⟨h1, h2⟩, ⟨h3, h4⟩⟩, h5⟩, rfl, by unfold FC.r; rw [e1, e2]; rfl⟩
theorem e_l29AnyC (c : Cu) (h : c.ok) : CurE Try.prog 34 (Cu.e c) [] (DClient × Cu) (fun x => Cu.e x.2) (fun x => [.agg (DClient.r x.1)]) (fun x => cinv 16 17 x.1 ∧ x.2.ok) :=
  curE_map (e_l29Any c h) fun _ hx => hx.to
theorem cell_in {x : DClient} (h : inR x.Sent 0 (IntKind.i64.wrap (((x.Submitted.map (eL eU)).length : Int) - 1)) = true) (hl : x.Submitted.length ≤ 16) : 0 ≤ x.Sent ∧ x.Sent.toNat < x.Submitted.length := by
  rw [List.length_map, w64_ok (by omega) (by omega)] at h
  have := inR_iff.1 h
  omega
structure FR where
  x : DClient
  r : Int
  own : List UInt8
  oth : RC
structure FR.ok (z : FR) : Prop where
  x : cinv 16 17 z.x
  own : z.own.length ≤ 64
  oth : rcU 65 z.oth
theorem e_DrawClientRead (b : List UInt8) (h : b.length ≤ 1048576) : FnE Try.prog 8 [.one (L eU b)] FR (fun x => [.agg (DClient.r x.x), .one (.s (I x.r)), .one (.l 1 (x.own.map eU)), .one x.oth]) FR.ok := by
  have h0 := nwC_okD h
  refine fnE_of Try.func8 rfl (by kernel_rfl) rfl ?_
  all_goals repeat' (first
    | (with_reducible rfl)
    | (conv => whnf
       first
         | refine regAt_liteD tys_ok (by kernel_rfl) 1 [0, 1] (by kernel_rfl) ⟨_, rfl⟩ rfl ?_
         | refine ⟨(by show frmL _ _; repeat (first | exact trivial | refine ⟨rfl, ?_⟩)), ?_⟩
         | (refine Or.inr ⟨rfl, Or.inl ?_⟩; (conv => whnf); refine inAt_new (c_l1New b h) ?_)
         | (show Cu.ok _; repeat (first | assumption | refine beN_ok ?_ | refine cuI_ok ?_ _))
         | (refine Or.inr ⟨rfl, Or.inl ?_⟩; (conv => whnf); refine inAt_curK ?_ (e_l29AnyC ?_ ?_) (by rfl) (by rfl) (by rfl); rintro ⟨x, c1⟩ ⟨hx, hc1⟩)
         | (refine Or.inr ⟨rfl, Or.inl ?_⟩; (conv => whnf); refine inAt_curK ?_ (e_l1Bent ?_ (sealCell _ _ _) ?_ (Nat.le_trans (sealCell_le _ _ _) (by decide))) (by rfl) (by rfl) (by rfl); rintro ⟨o, c2⟩ ⟨ho, hc2⟩; (have ho2 : rcU _ o := ho); rcases ho2.cases with ⟨ol, rfl, hol⟩ | rfl)
         | (refine Or.inr ⟨rfl, Or.inl ?_⟩; (conv => whnf); refine inAt_cur (c_l1Below ?_ ?_ ?_) (by rfl) (by rfl) (by rfl) ?_)
         | (refine Or.inr ⟨rfl, Or.inl ?_⟩; (conv => whnf); refine inAt_cur (c_l1Once ?_ ?_ ?_) (by rfl) (by rfl) (by rfl) ?_)
         | (refine Or.inr ⟨rfl, Or.inl ?_⟩; (conv => whnf); refine inAt_cur (c_l1BytesG ?_ ?_ ?_ ?_) (by rfl) (by rfl) (by rfl) ?_)
         | refine be_small (by decide) (by decide)
         | refine ⟨_, c_l1In _ _ _, ?_⟩
         | refine ⟨_, c_l29Cell x (cell_in (by assumption) hx.sub.1).1 (cell_in (by assumption) hx.sub.1).2 (hx.big (by decide) (by decide)) (hx.cell _), ?_⟩
         | refine Or.inr ⟨(by kernel_rfl), 1, ⟨_, rfl⟩, ?_⟩
         | (refine Or.inl ?_; (conv => whnf); first | refine cur_ex (c_l1Below ?_ ?_ ?_) (by rfl) (by rfl) ?_ | refine cur_ex (c_l1BytesG ?_ ?_ ?_ ?_) (by rfl) (by rfl) ?_)
         | (refine Or.inl ?_; (conv => whnf); first | refine cur_ex (c_l1Int ?_ [0, 0, 0, 1] ?_ (by show 0 < 4; decide) (by show 4 ≤ 1099511627776; decide)) (by rfl) (by rfl) ?_ | refine cur_ex (c_l1Int ?_ [1, 1, 1, 2] ?_ (by show 0 < 4; decide) (by show 4 ≤ 1099511627776; decide)) (by rfl) (by rfl) ?_ | refine cur_ex (c_l1Int ?_ [0, 0, 2, -1] ?_ (by show 0 < 4; decide) (by show 4 ≤ 1099511627776; decide)) (by rfl) (by rfl) ?_)
         | (refine Or.inr (?_ : hidO _ _ _ _ _ _ _); (conv => whnf); refine Or.inl ?_; (conv => whnf); refine ⟨_, c_l29Direction _, ?_⟩)
         | (refine Or.inr (?_ : hidO _ _ _ _ _ _ _); (conv => whnf); refine Or.inl ?_; (conv => whnf); refine ⟨_, c_sDirectionKey _ _, ?_⟩)
         | (refine Or.inr (?_ : hidO _ _ _ _ _ _ _); (conv => whnf); refine Or.inl ?_; (conv => whnf); refine ⟨_, c_sSealCell _ _ ⟨_, byV _ _⟩ (by show (byV _ (beV _ 5).toNat).length ≤ 1048576; exact Nat.le_trans (byV_le (by decide) (by decide)) (by decide)), ?_⟩)
         | (have hn : rcU _ (RC.s (L eU [])) := ho2; refine exQ ⟨?_, ?_, ?_, .s (L eU [])⟩ ?_ ?_)
         | refine exQ ⟨?_, ?_, ?_, .l 1 ?_⟩ ?_ ?_
         | exact trivial
         | (with_reducible rfl)
         | exact (rfl : (0 : Int) = ((0 : Nat) : Int))
         | exact w64_nat arith
         | refine bcase_T (by first | with_reducible rfl | decide) ?_
         | refine bcase_F (by first | with_reducible rfl | decide) ?_
         | refine bcase_dec (fun _ => ?_) (fun _ => ?_)
         | refine bcase_not ?_
         | refine bcase_intro (fun _ => ?_) (fun _ => ?_)
         | refine ⟨(by with_reducible rfl), ?_⟩
         | refine ⟨congrArg vi ?_, ?_⟩
         | refine ⟨congrArg vb ?_, ?_⟩
         | refine ⟨rfl, ?_⟩
         | refine ⟨(by kernel_rfl : drawOK _ = true), ?_⟩
         | refine Or.inl ?_
         | refine ⟨⟨congrArg (T.int _) ?_, rfl⟩, ?_⟩
         | refine ⟨⟨congrArg T.bool ?_, rfl⟩, ?_⟩
         | refine ⟨⟨rfl, Nat.le_of_ble_eq_true rfl⟩, ?_⟩
         | refine ⟨⟨rfl, rfl⟩, ?_⟩
         | refine ⟨⟨rfl, (by decide)⟩, ?_⟩
         | refine ⟨⟨rfl, ?_⟩, ?_⟩
         | refine ⟨Or.inr rfl, ?_⟩
         | refine ⟨Or.inl rfl, ?_⟩
         | refine ⟨⟨⟨rfl, rfl, rfl⟩, ?_⟩, ?_⟩
         | refine ⟨_, _, rfl, row_get _ _ arith, rfl, ?_⟩
         | refine ⟨Or.inr (by repeat (first | exact trivial | refine ⟨rfl, ?_⟩)), ?_⟩
         | refine ⟨(?_ : _ = ([] : List (List T))), ?_⟩
         | fail))
  all_goals first
    | exact ⟨by decide, by decide⟩
    | rfl
    | (refine ⟨hx, ?_, ?_⟩
       · first | exact msgCell_le _ | exact byV_leK (by decide)
       · first | exact rcU.nil | exact rcU.rows (Nat.le_trans hol (Nat.succ_le_succ (sealCell_le _ _ _))) | exact rcU.rows (Nat.le_trans (sealCell_le _ _ _) (by decide)))
    | trace_state
end Go.Proofs.Ytdbgmncapignoaa
