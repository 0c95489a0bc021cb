/-
  Contracts: what a code draws of devices and reads, known by its size.
  Conditions: none.
-/
import Derived.Test.YtcoipmjboiegoaaFnDg
import Derived.Test.YtcoipmjboiegoaaVmAj
namespace Go.Proofs.Ytcoipmjboiegoaa
set_option maxHeartbeats 4000000
set_option maxRecDepth 20000
open Go.Vm Go.RowKit
attribute [local irreducible] FnAt MutAt InAt JAt CurAt FnE CurE RegAt
attribute [local irreducible] beN cuI cuN beV byV newClient queueC IntKind.wrap crashD submitD readD readDOk submitOk sealCell msgCell dirKey nwC rcU
structure dsz (d : DDevice) : Prop where
  l : cinv 16 17 d.Live
  s : cinv 16 18 d.Saved
theorem dsz.big {d : DDevice} (h : dsz d) : bigD d := ⟨h.l.big (by decide) (by decide), h.s.big (by decide) (by decide)⟩
structure FD where
  L : DClient
  a1 : Int
  a2 : Int
  a3 : Int
  a4 : Int
  s : List (List T)
  a5 : Int
  i : List (List T)
  a6 : Int
  c : Cu
def FD.r (x : FD) : List RC := [.s (I x.L.Id), .s (I x.L.Friend), .s (I x.L.Key), .s (I x.L.Seed), .l 1 (x.L.Submitted.map (eL eU)), .s (I x.L.Sent), .l 1 (x.L.Inbox.map (eL eU)), .s (I x.L.Next), .s (I x.a1), .s (I x.a2), .s (I x.a3), .s (I x.a4), .l 1 x.s, .s (I x.a5), .l 1 x.i, .s (I x.a6)]
structure FD.ok (x : FD) : Prop where
  L : cinv 16 17 x.L
  s : rowsB 16 x.s
  i : rowsB 18 x.i
  c : x.c.ok
theorem FD.ok.to {x : FD} (h : x.ok) : ∃ y : DDevice × Cu, (dsz y.1 ∧ y.2.ok) ∧ Cu.e x.c = Cu.e y.2 ∧ [RV.agg x.r] = [RV.agg (DDevice.r y.1)] := by
  obtain ⟨hL, ⟨l, e1, h1, h2⟩, ⟨m, e2, h3, h4⟩, h5⟩ := h
  exact ⟨(⟨x.L, ⟨x.a1, x.a2, x.a3, x.a4, l, x.a5, m, x.a6⟩⟩, x.c), ⟨⟨hL, ⟨⟨h1, h2⟩, ⟨h3, h4⟩⟩⟩, h5⟩, rfl, by unfold FD.r; rw [e1, e2]; rfl⟩
theorem e_l30Any0 (c : Cu) (h : c.ok) : CurE Try.prog 78 (Cu.e c) [] FD (fun x => Cu.e x.c) (fun x => [.agg x.r]) FD.ok := by
  refine curE_of Try.func78 rfl (by kernel_rfl) rfl ?_
  all_goals repeat' (first
    | (with_reducible rfl)
    | (conv => whnf
       first
         | (show Cu.ok _; repeat (first | assumption | refine beN_ok ?_ | refine cuI_ok ?_ _))
         | (refine Or.inr ⟨rfl, Or.inl ?_⟩; (conv => whnf); refine inAt_curK ?_ (e_l30Device ?_ ?_) (by rfl) (by rfl) (by rfl); rintro ⟨x, c1⟩ ⟨hx, hc1⟩)
         | (refine Or.inr ⟨rfl, Or.inl ?_⟩; (conv => whnf); refine inAt_curK ?_ (e_l29AnyC ?_ ?_) (by rfl) (by rfl) (by rfl); rintro ⟨y, c2⟩ ⟨hy, hc2⟩)
         | (refine Or.inr ⟨rfl, Or.inl ?_⟩; (conv => whnf); refine inAt_cur (c_l1Below ?_ ?_ ?_) (by rfl) (by rfl) (by rfl) ?_)
         | (refine Or.inr ⟨rfl, Or.inl ?_⟩; (conv => whnf); refine inAt_cur (c_l1Once ?_ ?_ ?_) (by rfl) (by rfl) (by rfl) ?_)
         | (refine Or.inr ⟨rfl, Or.inl ?_⟩; (conv => whnf); refine inAt_cur (c_l1BytesG ?_ ?_ ?_ ?_) (by rfl) (by rfl) (by rfl) ?_)
         | refine be_small (by decide) (by decide)
         | refine Or.inr ⟨(by kernel_rfl), 0, ⟨_, rfl⟩, ?_⟩
         | (refine Or.inl ?_; (conv => whnf); first | refine cur_ex (c_l1Below ?_ ?_ ?_) (by rfl) (by rfl) ?_ | refine cur_ex (c_l1BytesG ?_ ?_ ?_ ?_) (by rfl) (by rfl) ?_)
         | (have h8 := hx.z.s.inb.1; refine ⟨⟨bnd, bnd⟩, ?_⟩)
         | refine exQ ⟨?_, ?_, ?_, ?_, ?_, ?_, ?_, ?_, ?_, ?_⟩ ?_ ?_
         | exact trivial
         | (with_reducible rfl)
         | exact (rfl : (0 : Int) = ((0 : Nat) : Int))
         | exact w64_nat arith
         | refine bcase_T (by first | with_reducible rfl | decide) ?_
         | refine bcase_F (by first | with_reducible rfl | decide) ?_
         | refine bcase_dec (fun _ => ?_) (fun _ => ?_)
         | refine bcase_not ?_
         | refine bcase_intro (fun _ => ?_) (fun _ => ?_)
         | refine ⟨(by with_reducible rfl), ?_⟩
         | refine ⟨congrArg vi ?_, ?_⟩
         | refine ⟨congrArg vb ?_, ?_⟩
         | refine ⟨rfl, ?_⟩
         | refine ⟨(by kernel_rfl : drawOK _ = true), ?_⟩
         | refine Or.inl ?_
         | refine ⟨⟨congrArg (T.int _) ?_, rfl⟩, ?_⟩
         | refine ⟨⟨congrArg T.bool ?_, rfl⟩, ?_⟩
         | refine ⟨⟨rfl, Nat.le_of_ble_eq_true rfl⟩, ?_⟩
         | refine ⟨⟨rfl, rfl⟩, ?_⟩
         | refine ⟨⟨rfl, (by decide)⟩, ?_⟩
         | refine ⟨⟨rfl, ?_⟩, ?_⟩
         | refine ⟨Or.inr rfl, ?_⟩
         | refine ⟨Or.inl rfl, ?_⟩
         | refine ⟨⟨⟨rfl, rfl, rfl⟩, ?_⟩, ?_⟩
         | refine ⟨_, _, rfl, row_get _ _ arith, rfl, ?_⟩
         | refine ⟨Or.inr (by repeat (first | exact trivial | refine ⟨rfl, ?_⟩)), ?_⟩
         | refine ⟨(?_ : _ = ([] : List (List T))), ?_⟩
         | fail))
  all_goals first
    | exact ⟨hy, rowsB.of hx.z.s.sub (by decide), rowsB.of hx.z.s.inb (by decide), hc2⟩
    | exact ⟨hx.z.l, rowsB.of hx.z.s.sub (by decide), rowsB.of hx.z.s.inb (by decide), by show Cu.ok _; repeat (first | assumption | refine beN_ok ?_)⟩
    | exact ⟨hx.z.l, rowsB.of hx.z.s.sub (by decide), rowsB.add (x := [1]) hx.z.s.inb (by decide) (by decide) rfl, by show Cu.ok _; repeat (first | assumption | refine beN_ok ?_)⟩
    | trace_state
theorem e_l30Any (c : Cu) (h : c.ok) : CurE Try.prog 78 (Cu.e c) [] (DDevice × Cu) (fun x => Cu.e x.2) (fun x => [.agg (DDevice.r x.1)]) (fun x => dsz x.1 ∧ x.2.ok) :=
  curE_map (e_l30Any0 c h) fun _ hx => hx.to
structure FO where
  d : DDevice
  r : Int
  own : List UInt8
  oth : RC
structure FO.ok (z : FO) : Prop where
  d : dsz z.d
  own : z.own.length ≤ 64
  oth : rcU 65 z.oth
theorem e_DrawReadOnDevice (b : List UInt8) (h : b.length ≤ 1048576) : FnE Try.prog 27 [.one (L eU b)] FO (fun x => [.agg (DDevice.r x.d), .one (.s (I x.r)), .one (.l 1 (x.own.map eU)), .one x.oth]) FO.ok := by
  have h0 := nwC_okD h
  refine fnE_of Try.func27 rfl (by kernel_rfl) rfl ?_
  all_goals repeat' (first
    | (with_reducible rfl)
    | (conv => whnf
       first
         | (refine Or.inr ⟨rfl, Or.inl ?_⟩; (conv => whnf); refine inAt_new (c_l1New b h) ?_)
         | (show Cu.ok _; repeat (first | assumption | refine beN_ok ?_ | refine cuI_ok ?_ _))
         | (refine Or.inr ⟨rfl, Or.inl ?_⟩; (conv => whnf); refine inAt_curK ?_ (e_l30Any ?_ ?_) (by rfl) (by rfl) (by rfl); rintro ⟨d, c1⟩ ⟨hd, hc1⟩)
         | (refine Or.inr ⟨rfl, Or.inl ?_⟩; (conv => whnf); refine inAt_fnK ?_ (e_DrawClientRead b h) (by rfl); rintro ⟨x0, r0, own0, oth0⟩ ⟨hx0, ho0, hoth0⟩; (have h2 : rcU 65 oth0 := hoth0); rcases h2.cases with ⟨ol, rfl, hol⟩ | rfl)
         | (refine Or.inr ⟨rfl, Or.inl ?_⟩; (conv => whnf); refine inAt_cur (c_l1Below ?_ ?_ ?_) (by rfl) (by rfl) (by rfl) ?_)
         | (refine Or.inr ⟨rfl, Or.inl ?_⟩; (conv => whnf); refine inAt_cur (c_l1Once ?_ ?_ ?_) (by rfl) (by rfl) (by rfl) ?_)
         | (refine Or.inr ⟨rfl, Or.inl ?_⟩; (conv => whnf); refine inAt_cur (c_l1BytesG ?_ ?_ ?_ ?_) (by rfl) (by rfl) (by rfl) ?_)
         | refine be_small (by decide) (by decide)
         | refine ⟨_, c_l1In _ _ _, ?_⟩
         | refine ⟨_, c_l29Cell d.Live (cell_in (by assumption) hd.l.sub.1).1 (cell_in (by assumption) hd.l.sub.1).2 (hd.l.big (by decide) (by decide)) (hd.l.cell _), ?_⟩
         | refine Or.inr ⟨(by kernel_rfl), 1, ⟨_, rfl⟩, ?_⟩
         | (refine Or.inl ?_; (conv => whnf); first | refine cur_ex (c_l1Below ?_ ?_ ?_) (by rfl) (by rfl) ?_ | refine cur_ex (c_l1BytesG ?_ ?_ ?_ ?_) (by rfl) (by rfl) ?_)
         | (refine Or.inr (?_ : hidO _ _ _ _ _ _ _); (conv => whnf); refine Or.inl ?_; (conv => whnf); refine ⟨_, c_l29Direction _, ?_⟩)
         | (refine Or.inr (?_ : hidO _ _ _ _ _ _ _); (conv => whnf); refine Or.inl ?_; (conv => whnf); refine ⟨_, c_sDirectionKey _ _, ?_⟩)
         | (have hseal : (0 : Nat) = 0 := rfl; (refine Or.inr (?_ : hidO _ _ _ _ _ _ _); (conv => whnf); refine Or.inl ?_; (conv => whnf); refine ⟨_, c_sSealCell _ _ ⟨_, byV _ _⟩ (by show (byV _ _).length ≤ 1048576; exact Nat.le_trans (byV_leK (by decide)) (by decide : 64 ≤ 1048576)), ?_⟩))
         | (have hs := hseal; refine exQ ⟨?_, ?_, ?_, .l 1 ?_⟩ ?_ ?_)
         | (have hn : rcU 65 (RC.s (L eU [])) := h2; refine exQ ⟨?_, ?_, ?_, .s (L eU [])⟩ ?_ ?_)
         | refine exQ ⟨?_, ?_, ?_, .l 1 ?_⟩ ?_ ?_
         | exact trivial
         | (with_reducible rfl)
         | exact (rfl : (0 : Int) = ((0 : Nat) : Int))
         | exact w64_nat arith
         | refine bcase_T (by first | with_reducible rfl | decide) ?_
         | refine bcase_F (by first | with_reducible rfl | decide) ?_
         | refine bcase_dec (fun _ => ?_) (fun _ => ?_)
         | refine bcase_not ?_
         | refine bcase_intro (fun _ => ?_) (fun _ => ?_)
         | refine ⟨(by with_reducible rfl), ?_⟩
         | refine ⟨congrArg vi ?_, ?_⟩
         | refine ⟨congrArg vb ?_, ?_⟩
         | refine ⟨rfl, ?_⟩
         | refine ⟨(by kernel_rfl : drawOK _ = true), ?_⟩
         | refine Or.inl ?_
         | refine ⟨⟨congrArg (T.int _) ?_, rfl⟩, ?_⟩
         | refine ⟨⟨congrArg T.bool ?_, rfl⟩, ?_⟩
         | refine ⟨⟨rfl, Nat.le_of_ble_eq_true rfl⟩, ?_⟩
         | refine ⟨⟨rfl, rfl⟩, ?_⟩
         | refine ⟨⟨rfl, (by decide)⟩, ?_⟩
         | refine ⟨⟨rfl, ?_⟩, ?_⟩
         | refine ⟨Or.inr rfl, ?_⟩
         | refine ⟨Or.inl rfl, ?_⟩
         | refine ⟨⟨⟨rfl, rfl, rfl⟩, ?_⟩, ?_⟩
         | refine ⟨_, _, rfl, row_get _ _ arith, rfl, ?_⟩
         | refine ⟨Or.inr (by repeat (first | exact trivial | refine ⟨rfl, ?_⟩)), ?_⟩
         | refine ⟨(?_ : _ = ([] : List (List T))), ?_⟩
         | fail))
  all_goals first
    | exact ⟨by decide, by decide⟩
    | rfl
    | (refine ⟨hd, ?_, ?_⟩
       · first | exact ho0 | exact msgCell_le _
       · first | exact rcU.nil | exact h2 | exact rcU.rows (Nat.le_trans (sealCell_le _ _ _) (by decide)))
    | trace_state
end Go.Proofs.Ytcoipmjboiegoaa
