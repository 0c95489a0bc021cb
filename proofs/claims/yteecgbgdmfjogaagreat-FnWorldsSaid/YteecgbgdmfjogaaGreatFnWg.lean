/-
  Contract: the world, the client and the message that a code draws, known by their size.
  Conditions: none.
-/
import Derived.Test.YteecgbgdmfjogaaGreatFnWf
import Derived.Test.YteecgbgdmfjogaaGreatFnWe
import Derived.Test.YteecgbgdmfjogaaGreatFnDrc
namespace Go.Proofs.YteecgbgdmfjogaaGreat
set_option maxHeartbeats 4000000
set_option maxRecDepth 20000
open Go.Vm Go.RowKit
attribute [local irreducible] FnAt MutAt InAt JAt CurAt FnE CurE RegAt
theorem fnE_map {P : Program} {f : FuncId} {xs : List V} {X Y : Type} {rs : X → List RV} {Q : X → Prop} {rs2 : Y → List RV} {Q2 : Y → Prop}
    (h : FnE P f xs X rs Q) (hm : ∀ x, Q x → ∃ y, Q2 y ∧ rs x = rs2 y) : FnE P f xs Y rs2 Q2 := by
  unfold FnE at h ⊢
  refine ⟨h.1, fun w vs h1 => (h.2 w vs h1).mono ?_⟩
  rintro ex w' ⟨x, hq, hp⟩
  obtain ⟨y, hy, e2⟩ := hm x hq
  rw [e2] at hp
  exact ⟨y, hy, hp⟩
attribute [local irreducible] beN cuI cuN beV byV newWorld submitW IntKind.wrap nwC aaV aaN
def svR (r : List (List T)) : Prop := ∃ l : List DServer, r = l.map DServer.e ∧ bigSs l
def dvP (d : DDevice) : Prop := bigD d ∧ d.Live.Submitted.length ≤ 20 ∧ d.Saved.Submitted.length ≤ 20
def dvR (r : List (List T)) : Prop := ∃ l : List DDevice, r = l.map DDevice.e ∧ l.length ≤ 1000 ∧ ∀ d ∈ l, dvP d
def arR (r : List (List T)) : Prop := ∃ l : List DArchivedRound, r = l.map DArchivedRound.e ∧ bigR l
def rpR (r : List (List T)) : Prop := ∃ l : List Int, r = l.map eI ∧ l.length ≤ 1099511627776
structure FW where
  a0 : Int
  sv : List (List T)
  dv : List (List T)
  a1 : Int
  ar : List (List T)
  a2 : Int
  a3 : Int
  a4 : Int
  rp : List (List T)
  a5 : Int
  cl : Int
  bd : List UInt8
def FW.r (x : FW) : List RC := [.s (I x.a0), .l 5 x.sv, .l 16 x.dv, .s (I x.a1), .l 2 x.ar, .s (I x.a2), .s (I x.a3), .s (I x.a4), .l 1 x.rp, .s (I x.a5)]
structure FW.ok (x : FW) : Prop where
  sv : svR x.sv
  dv : dvR x.dv
  ar : arR x.ar
  rp : rpR x.rp
  bd : x.bd.length ≤ 15
theorem FW.ok.to {x : FW} (h : x.ok) : ∃ y : DWorld × Int × List UInt8, (wz 20 y.1 ∧ y.2.2.length ≤ 15) ∧ [RV.agg x.r, .one (.s (I x.cl)), .one (.l 1 (x.bd.map eU))] = [RV.agg (DWorld.r y.1), .one (.s (I y.2.1)), .one (.l 1 (y.2.2.map eU))] := by
  obtain ⟨⟨l1, e1, h1⟩, ⟨l2, e2, h2, h3⟩, ⟨l3, e3, h4⟩, ⟨l4, e4, h5⟩, h6⟩ := h
  refine ⟨(⟨x.a0, l1, l2, ⟨x.a1, l3⟩, x.a2, x.a3, x.a4, l4, x.a5⟩, x.cl, x.bd), ⟨⟨⟨h1, ⟨?_, fun d hd => (h3 d hd).1⟩, h4, h5⟩, h2, fun d hd => (h3 d hd).2⟩, h6⟩, ?_⟩
  · show l2.length ≤ _
    omega
  · unfold FW.r; rw [e1, e2, e3, e4]; rfl
theorem svR.of {w : DWorld} {k : Nat} (h : wz k w) : svR (w.Servers.map DServer.e) := ⟨_, rfl, h.big.1⟩
theorem svR.drop {w : DWorld} {k : Nat} (h : wz k w) {i j : Nat} : svR (((w.Servers.map DServer.e).take i).drop j) := ⟨(w.Servers.take i).drop j, by rw [List.map_drop, List.map_take], by have := h.big.1.1; rw [List.length_drop, List.length_take]; omega, fun s hs => h.big.1.2 s (List.mem_of_mem_take (List.mem_of_mem_drop hs))⟩
theorem svR.set {w : DWorld} {k : Nat} (h : wz k w) {s : DServer} (hs : srvSz 6 s) {i : Nat} {r : List T} (hr : r = DServer.e s) : svR ((w.Servers.map DServer.e).set i r) := ⟨w.Servers.set i s, by rw [List.map_set, hr], by rw [List.length_set]; exact h.big.1.1, fun x hx => by
  rcases List.mem_or_eq_of_mem_set hx with hx | rfl
  · exact h.big.1.2 x hx
  · exact hs.big (by decide)⟩
theorem dvP.of {w : DWorld} {k : Nat} (h : wz k w) (hk : k ≤ 20) : ∀ d ∈ w.Devices, dvP d := fun d hd => ⟨h.big.2.1.2 d hd, Nat.le_trans (h.sub d hd).1 hk, Nat.le_trans (h.sub d hd).2 hk⟩
theorem dvR.of {w : DWorld} {k : Nat} (h : wz k w) (hk : k ≤ 20) : dvR (w.Devices.map DDevice.e) := ⟨_, rfl, h.dv, dvP.of h hk⟩
theorem dvR.drop {w : DWorld} {k : Nat} (h : wz k w) (hk : k ≤ 20) {i j : Nat} : dvR (((w.Devices.map DDevice.e).take i).drop j) := ⟨(w.Devices.take i).drop j, by rw [List.map_drop, List.map_take], by have := h.dv; rw [List.length_drop, List.length_take]; omega, fun d hd => dvP.of h hk d (List.mem_of_mem_take (List.mem_of_mem_drop hd))⟩
theorem dvR.set {w : DWorld} {k : Nat} (h : wz k w) (hk : k ≤ 20) {d : DDevice} (hd : dsz d) {i : Nat} {r : List T} (hr : r = DDevice.e d) : dvR ((w.Devices.map DDevice.e).set i r) := ⟨w.Devices.set i d, by rw [List.map_set, hr], by rw [List.length_set]; exact h.dv, fun x hx => by
  rcases List.mem_or_eq_of_mem_set hx with hx | rfl
  · exact dvP.of h hk x hx
  · exact ⟨hd.big, Nat.le_trans hd.l.sub.1 (by decide), Nat.le_trans hd.s.sub.1 (by decide)⟩⟩
theorem arR.of {w : DWorld} {k : Nat} (h : wz k w) : arR (w.Archive.Rounds.map DArchivedRound.e) := ⟨_, rfl, h.big.2.2.1⟩
theorem rpR.of {w : DWorld} {k : Nat} (h : wz k w) : rpR (w.Replaced.map eI) := ⟨_, rfl, h.big.2.2.2⟩
theorem bd_in {x : Int} (h : x ∈ ([0, 3, 14, 15] : List Int)) : 0 ≤ x ∧ x ≤ 1048576 := by
  simp only [List.mem_cons, List.not_mem_nil, or_false] at h
  omega
theorem bd_le {c c' : Cu} {x : Int} (h : x ∈ ([0, 3, 14, 15] : List Int)) : (byV c x.toNat).length ≤ 15 := by
  simp only [List.mem_cons, List.not_mem_nil, or_false] at h
  rw [byV_len]; omega
theorem e_DrawSubmitMessage0 (b : List UInt8) (h : b.length ≤ 1048576) : FnE Tryz.prog 10 [.one (L eU b)] FW (fun x => [.agg x.r, .one (.s (I x.cl)), .one (.l 1 (x.bd.map eU))]) FW.ok := by
  have h0 := nwC_okW h
  refine fnE_of Tryz.func10 rfl (by kernel_rfl) rfl ?_
  all_goals repeat' (first | (with_reducible rfl) | ((conv => whnf); first | (refine Or.inr ⟨rfl, Or.inl ?_⟩; (conv => whnf); refine inAt_new (c_l1New b h) ?_) | (refine Or.inr ⟨rfl, Or.inl ?_⟩; (conv => whnf); refine inAt_curK ?_ (e_l32New (nwC b) h0) (by rfl) (by rfl) (by rfl); rintro ⟨w, c1⟩ ⟨⟨hw, hw1, hw2⟩, hc1⟩) | (refine Or.inr ⟨rfl, Or.inr (Or.inr ?_)⟩; (conv => whnf); refine jat_ Tryz.func48 rfl (by kernel_rfl) (by rfl) (by rfl) ?_) | (refine Or.inr ⟨rfl, Or.inl ?_⟩; (conv => whnf); refine inAt_curK ?_ (e_lW c1 24 hc1 (by decide)) (by rfl) (by rfl) (by rfl); rintro ⟨v, c2⟩ ⟨hv, hc2⟩) | (refine Or.inr ⟨rfl, Or.inl ?_⟩; (conv => whnf); refine inAt_curK ?_ (e_lI c2 [0, IntKind.i64.wrap (w.Rows + 1), 65] hc2 (by show 0 < 3; decide) (by show 3 ≤ 1099511627776; decide)) (by rfl) (by rfl) (by rfl); rintro ⟨i1, c3⟩ ⟨hi1, hc3⟩) | (refine Or.inr ⟨rfl, Or.inl ?_⟩; (conv => whnf); refine inAt_curK ?_ (e_lI c2 [-1, IntKind.i64.wrap (w.Round + 1), 100001] hc2 (by show 0 < 3; decide) (by show 3 ≤ 1099511627776; decide)) (by rfl) (by rfl) (by rfl); rintro ⟨i1, c3⟩ ⟨hi1, hc3⟩) | (refine Or.inr ⟨rfl, Or.inl ?_⟩; (conv => whnf); refine inAt_cur (c_l28Any c2 hc2) (by rfl) (by rfl) (by rfl) ?_) | (refine Or.inr ⟨rfl, Or.inl ?_⟩; (conv => whnf); refine inAt_curK ?_ (e_l13Key c2 hc2) (by rfl) (by rfl) (by rfl); rintro ⟨i1, c3⟩ hc3) | refine ⟨1, _, rfl, rfl, ⟨(by first | (show 1 ≤ (w.Servers.map DServer.e).length; rw [List.length_map]; exact Nat.le_of_lt hw1) | (show 1 ≤ (w.Devices.map DDevice.e).length; rw [List.length_map]; exact Nat.le_of_lt hw2)), Nat.le_refl _⟩, ?_⟩ | refine regAt_one tys_ok (by kernel_rfl) 3 55 [1] _ _ (by kernel_rfl) (by kernel_rfl) (by rfl) (by rfl) (by rfl) (by rfl) (by rfl) (by rfl) (by rfl) (by kernel_rfl) ?_ | refine regAt_one tys_ok (by kernel_rfl) 3 62 [1] _ _ (by kernel_rfl) (by kernel_rfl) (by rfl) (by rfl) (by rfl) (by rfl) (by rfl) (by rfl) (by rfl) (by kernel_rfl) ?_ | refine regAt_liteD tys_ok (by kernel_rfl) 1 [0, 1] (by kernel_rfl) ⟨_, rfl⟩ rfl ?_ | refine Or.inr ⟨(by kernel_rfl), 1, ⟨_, rfl⟩, ?_⟩ | (refine inAt_curK ?_ (e_l25Any c2 hc2) (by rfl) (by rfl) (by rfl); rintro ⟨sv, c3⟩ ⟨hsv, hc3⟩) | (refine inAt_curK ?_ (e_l30Any c2 hc2) (by rfl) (by rfl) (by rfl); rintro ⟨dv, c3⟩ ⟨hdv, hc3⟩) | refine ⟨0, rfl, (by first | (show 0 < (w.Servers.map DServer.e).length; rw [List.length_map]; exact Nat.lt_of_succ_lt hw1) | (show 0 < (w.Devices.map DDevice.e).length; rw [List.length_map]; exact Nat.lt_of_succ_lt hw2)), ?_⟩ | refine ⟨(by show frmL _ _; repeat (first | exact trivial | refine ⟨rfl, ?_⟩)), ?_⟩ | refine ⟨_, row_get DServer.e w.Servers (Nat.lt_of_succ_lt hw1), ?_⟩ | refine ⟨_, row_get DDevice.e w.Devices (Nat.lt_of_succ_lt hw2), ?_⟩ | (refine Or.inr ⟨rfl, Or.inl ?_⟩; (conv => whnf); refine inAt_curK ?_ (e_lW c3 7 hc3 (by decide)) (by rfl) (by rfl) (by rfl); rintro ⟨cl, c4⟩ ⟨hcl, hc4⟩) | (refine Or.inr ⟨rfl, Or.inl ?_⟩; (conv => whnf); refine inAt_curK ?_ (e_lW (aaN c2) 7 (aaN_ok hc2) (by decide)) (by rfl) (by rfl) (by rfl); rintro ⟨cl, c4⟩ ⟨hcl, hc4⟩) | (refine Or.inr ⟨rfl, Or.inl ?_⟩; (conv => whnf); refine inAt_curK ?_ (e_lW c2 7 hc2 (by decide)) (by rfl) (by rfl) (by rfl); rintro ⟨cl, c4⟩ ⟨hcl, hc4⟩) | (refine Or.inl ?_; (conv => whnf); first | refine cur_ex (c_l1Int c4 [0, 3, 14, 15] hc4 (by decide) (by decide)) (by rfl) (by rfl) ?_ | refine cur_ex (c_l1BytesG (beN c4 (([0, 3, 14, 15] : List Int).length : Int)) _ (beN_ok hc4) (bd_in (get_mem (c := c4) (by decide)))) (by rfl) (by rfl) ?_) | (have hq : v = 1 := (by assumption); refine exQ ⟨?_, ((w.Servers.map DServer.e).take (w.Servers.map DServer.e).length).drop 1, ?_, ?_, ?_, ?_, ?_, ?_, ?_, ?_, ?_, ?_⟩ ?_ ?_) | (have hq : v = 2 := (by assumption); refine exQ ⟨?_, ?_, ((w.Devices.map DDevice.e).take (w.Devices.map DDevice.e).length).drop 1, ?_, ?_, ?_, ?_, ?_, ?_, ?_, ?_, ?_⟩ ?_ ?_) | refine exQ ⟨?_, ?_, ?_, ?_, ?_, ?_, ?_, ?_, ?_, ?_, ?_, ?_⟩ ?_ ?_ | refine ⟨(by first | (show 1 < (w.Servers.map DServer.e).length; rw [List.length_map]; exact hw1) | (show 1 < (w.Devices.map DDevice.e).length; rw [List.length_map]; exact hw2)), Nat.le_refl _, rfl⟩ | refine ⟨⟨(by first | (show 1 < (w.Servers.map DServer.e).length; rw [List.length_map]; exact hw1) | (show 1 < (w.Devices.map DDevice.e).length; rw [List.length_map]; exact hw2)), Nat.le_refl _, rfl⟩, ?_⟩ | exact trivial | (with_reducible rfl) | exact (rfl : (0 : Int) = ((0 : Nat) : Int)) | exact w64_nat arith | refine bcase_T (by first | with_reducible rfl | decide) ?_ | refine bcase_F (by first | with_reducible rfl | decide) ?_ | refine bcase_dec (fun _ => ?_) (fun _ => ?_) | refine bcase_not ?_ | refine bcase_intro (fun _ => ?_) (fun _ => ?_) | refine ⟨(by with_reducible rfl), ?_⟩ | refine ⟨congrArg vi ?_, ?_⟩ | refine ⟨congrArg vb ?_, ?_⟩ | refine ⟨rfl, ?_⟩ | refine ⟨(by kernel_rfl : drawOK _ = true), ?_⟩ | refine Or.inl ?_ | refine ⟨⟨congrArg (T.int _) ?_, rfl⟩, ?_⟩ | refine ⟨⟨congrArg T.bool ?_, rfl⟩, ?_⟩ | refine ⟨⟨rfl, Nat.le_of_ble_eq_true rfl⟩, ?_⟩ | refine ⟨⟨rfl, rfl⟩, ?_⟩ | refine ⟨⟨rfl, (by decide)⟩, ?_⟩ | refine ⟨⟨rfl, ?_⟩, ?_⟩ | refine ⟨Or.inr rfl, ?_⟩ | refine ⟨Or.inl rfl, ?_⟩ | refine ⟨⟨⟨rfl, rfl, rfl⟩, ?_⟩, ?_⟩ | refine ⟨_, _, rfl, row_get _ _ arith, rfl, ?_⟩ | refine ⟨Or.inr (by repeat (first | exact trivial | refine ⟨rfl, ?_⟩)), ?_⟩ | refine ⟨(?_ : _ = ([] : List (List T))), ?_⟩ | fail))
  all_goals first
    | exact ⟨svR.of hw, dvR.of hw (by decide), arR.of hw, rpR.of hw, bd_le (c' := c4) (get_mem (c := c4) (by decide))⟩
    | exact ⟨svR.drop hw, dvR.of hw (by decide), arR.of hw, rpR.of hw, bd_le (c' := c4) (get_mem (c := c4) (by decide))⟩
    | exact ⟨svR.of hw, dvR.drop hw (by decide), arR.of hw, rpR.of hw, bd_le (c' := c4) (get_mem (c := c4) (by decide))⟩
    | exact ⟨svR.of hw, dvR.of hw (by decide), ⟨_, rfl, (aaV_big hc2).1⟩, rpR.of hw, bd_le (c' := c4) (get_mem (c := c4) (by decide))⟩
    | exact ⟨svR.set hw hsv rfl, dvR.of hw (by decide), arR.of hw, rpR.of hw, bd_le (c' := c4) (get_mem (c := c4) (by decide))⟩
    | exact ⟨svR.of hw, dvR.set hw (by decide) hdv rfl, arR.of hw, rpR.of hw, bd_le (c' := c4) (get_mem (c := c4) (by decide))⟩
    | trace_state
theorem e_DrawSubmitMessage (b : List UInt8) (h : b.length ≤ 1048576) : FnE Tryz.prog 10 [.one (L eU b)] (DWorld × Int × List UInt8) (fun y => [.agg (DWorld.r y.1), .one (.s (I y.2.1)), .one (.l 1 (y.2.2.map eU))]) (fun y => wz 20 y.1 ∧ y.2.2.length ≤ 15) :=
  fnE_map (e_DrawSubmitMessage0 b h) fun _ hx => hx.to
end Go.Proofs.YteecgbgdmfjogaaGreat
