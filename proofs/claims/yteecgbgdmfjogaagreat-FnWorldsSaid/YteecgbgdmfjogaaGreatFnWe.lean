/-
  Contracts: what the cursor draws of servers, known by its size; numbers of a new world.
  Contract: any server that the cursor draws, known by its size.
  Conditions: none.
-/
import Derived.Test.YteecgbgdmfjogaaGreatFnDi
import Derived.Test.YteecgbgdmfjogaaGreatFnRv
import Derived.Test.YteecgbgdmfjogaaGreatFnDrc
import Derived.Test.YteecgbgdmfjogaaGreatVmAm
namespace Go.Proofs.YteecgbgdmfjogaaGreat
set_option maxHeartbeats 4000000
set_option maxRecDepth 20000
open Go.Vm Go.RowKit
attribute [local irreducible] FnAt MutAt InAt JAt CurAt FnE CurE RegAt
attribute [local irreducible] beN cuI cuN beV byV newServer IntKind.wrap rcv rcvOk nwC dbR anV anN
theorem nwC_okW {b : List UInt8} (h : b.length ≤ 1048576) : (nwC b).ok := by unfold nwC; exact ⟨h, Nat.zero_le _⟩
theorem curE_of_curAtW {P : Program} {f : FuncId} {cs cs0 : List T} {xs : List V} {rs0 : List RV} {X : Type} {cs' : X → List T} {rs : X → List RV} {Q : X → Prop} (x : X) (h : CurAt P f cs cs0 xs rs0) (h1 : cs' x = cs0) (h2 : rs x = rs0) (hq : Q x) : CurE P f cs xs X cs' rs Q := by
  unfold CurE
  unfold CurAt at h
  refine ⟨h.1, fun w g us e F vs k1 k2 k3 k4 => (h.2 w g us e F vs k1 k2 k3 k4).mono ?_⟩
  intro ex w' hp
  exact ⟨x, hq, by rw [h1, h2]; exact hp⟩
theorem e_lW (c : Cu) (n : Int) (h : c.ok) (hn : 0 < n) : CurE Tryz.prog 20 (Cu.e c) [.one (I n)] (Int × Cu) (fun x => Cu.e x.2) (fun x => [.one (.s (I x.1))]) (fun x => (0 ≤ x.1 ∧ x.1 < n) ∧ x.2.ok) :=
  curE_of_curAtW (beV c n, beN c n) (c_l1Below c n h) rfl rfl ⟨beV_lt hn, beN_ok h⟩
theorem e_lI (c : Cu) (xs : List Int) (h : c.ok) (hx : 0 < xs.length) (hx2 : xs.length ≤ 1099511627776) : CurE Tryz.prog 19 (Cu.e c) [.one (L eI xs)] (Int × Cu) (fun x => Cu.e x.2) (fun x => [.one (.s (I x.1))]) (fun x => x.1 ∈ xs ∧ x.2.ok) :=
  curE_of_curAtW (_, _) (c_l1Int c xs h hx hx2) rfl rfl ⟨get_mem hx, beN_ok h⟩
theorem e_l5Rows (c : Cu) (h : c.ok) : CurE Tryz.prog 18 (Cu.e c) [] (Int × Cu) (fun x => Cu.e x.2) (fun x => [.one (.s (I x.1))]) (fun x => x.2.ok) := by
  refine curE_of Tryz.func18 rfl (by kernel_rfl) rfl ?_
  all_goals repeat' (first | (with_reducible rfl) | ((conv => whnf); first | (refine Or.inr ⟨rfl, Or.inl ?_⟩; (conv => whnf); refine inAt_curK ?_ (e_lI c [-1, 0, 1, 4, 9, 64, 65] h (by decide) (by decide)) (by rfl) (by rfl) (by rfl); rintro ⟨r, c1⟩ ⟨hr, hc1⟩) | refine exQ (r, c1) ?_ hc1 | exact trivial | (with_reducible rfl) | exact (rfl : (0 : Int) = ((0 : Nat) : Int)) | exact w64_nat arith | refine bcase_T (by first | with_reducible rfl | decide) ?_ | refine bcase_F (by first | with_reducible rfl | decide) ?_ | refine bcase_dec (fun _ => ?_) (fun _ => ?_) | refine bcase_not ?_ | refine bcase_intro (fun _ => ?_) (fun _ => ?_) | refine ⟨(by with_reducible rfl), ?_⟩ | refine ⟨congrArg vi ?_, ?_⟩ | refine ⟨congrArg vb ?_, ?_⟩ | refine ⟨rfl, ?_⟩ | refine ⟨(by kernel_rfl : drawOK _ = true), ?_⟩ | refine Or.inl ?_ | refine ⟨⟨congrArg (T.int _) ?_, rfl⟩, ?_⟩ | refine ⟨⟨congrArg T.bool ?_, rfl⟩, ?_⟩ | refine ⟨⟨rfl, Nat.le_of_ble_eq_true rfl⟩, ?_⟩ | refine ⟨⟨rfl, rfl⟩, ?_⟩ | refine ⟨⟨rfl, (by decide)⟩, ?_⟩ | refine ⟨⟨rfl, ?_⟩, ?_⟩ | refine ⟨Or.inr rfl, ?_⟩ | refine ⟨Or.inl rfl, ?_⟩ | refine ⟨⟨⟨rfl, rfl, rfl⟩, ?_⟩, ?_⟩ | refine ⟨_, _, rfl, row_get _ _ arith, rfl, ?_⟩ | refine ⟨Or.inr (by repeat (first | exact trivial | refine ⟨rfl, ?_⟩)), ?_⟩ | refine ⟨(?_ : _ = ([] : List (List T))), ?_⟩ | fail))
  all_goals rfl
theorem e_DrawNewWorld (b : List UInt8) (h : b.length ≤ 1048576) : FnE Tryz.prog 5 [.one (L eU b)] (Int × Int × Int × Int) (fun x => [.one (.s (I x.1)), .one (.s (I x.2.1)), .one (.s (I x.2.2.1)), .one (.s (I x.2.2.2))]) (fun _ => True) := by
  have h0 := nwC_okW h
  refine fnE_of Tryz.func5 rfl (by kernel_rfl) rfl ?_
  all_goals repeat' (first | (with_reducible rfl) | ((conv => whnf); first | (refine Or.inr ⟨rfl, Or.inl ?_⟩; (conv => whnf); refine inAt_new (c_l1New b h) ?_) | (refine Or.inr ⟨rfl, Or.inl ?_⟩; (conv => whnf); refine inAt_curK ?_ (e_l5Rows (nwC b) h0) (by rfl) (by rfl) (by rfl); rintro ⟨r, c1⟩ hc1) | (refine Or.inr ⟨rfl, Or.inl ?_⟩; (conv => whnf); refine inAt_curK ?_ (e_lI c1 [1, 2, 3, 4, 5] hc1 (by decide) (by decide)) (by rfl) (by rfl) (by rfl); rintro ⟨s, c2⟩ ⟨hs, hc2⟩) | (refine Or.inr ⟨rfl, Or.inl ?_⟩; (conv => whnf); refine inAt_curK ?_ (e_lI c2 [0, 1, 2, 4, 5] hc2 (by decide) (by decide)) (by rfl) (by rfl) (by rfl); rintro ⟨p, c3⟩ ⟨hp, hc3⟩) | (refine Or.inr ⟨rfl, Or.inl ?_⟩; (conv => whnf); refine inAt_curK ?_ (e_lW c3 999 hc3 (by decide)) (by rfl) (by rfl) (by rfl); rintro ⟨sd, c4⟩ ⟨hsd, hc4⟩) | refine exQ (r, s, p, sd) ?_ trivial | exact trivial | (with_reducible rfl) | exact (rfl : (0 : Int) = ((0 : Nat) : Int)) | exact w64_nat arith | refine bcase_T (by first | with_reducible rfl | decide) ?_ | refine bcase_F (by first | with_reducible rfl | decide) ?_ | refine bcase_dec (fun _ => ?_) (fun _ => ?_) | refine bcase_not ?_ | refine bcase_intro (fun _ => ?_) (fun _ => ?_) | refine ⟨(by with_reducible rfl), ?_⟩ | refine ⟨congrArg vi ?_, ?_⟩ | refine ⟨congrArg vb ?_, ?_⟩ | refine ⟨rfl, ?_⟩ | refine ⟨(by kernel_rfl : drawOK _ = true), ?_⟩ | refine Or.inl ?_ | refine ⟨⟨congrArg (T.int _) ?_, rfl⟩, ?_⟩ | refine ⟨⟨congrArg T.bool ?_, rfl⟩, ?_⟩ | refine ⟨⟨rfl, Nat.le_of_ble_eq_true rfl⟩, ?_⟩ | refine ⟨⟨rfl, rfl⟩, ?_⟩ | refine ⟨⟨rfl, (by decide)⟩, ?_⟩ | refine ⟨⟨rfl, ?_⟩, ?_⟩ | refine ⟨Or.inr rfl, ?_⟩ | refine ⟨Or.inl rfl, ?_⟩ | refine ⟨⟨⟨rfl, rfl, rfl⟩, ?_⟩, ?_⟩ | refine ⟨_, _, rfl, row_get _ _ arith, rfl, ?_⟩ | refine ⟨Or.inr (by repeat (first | exact trivial | refine ⟨rfl, ?_⟩)), ?_⟩ | refine ⟨(?_ : _ = ([] : List (List T))), ?_⟩ | fail))
  all_goals rfl
def shSz (r : DReceivedShare) : Prop := r.Share.Rows.length ≤ 64 ∧ ∀ x ∈ r.Share.Rows, x.length ≤ 64
def srvSz (k : Nat) (s : DServer) : Prop := s.Received.length ≤ k ∧ ∀ r ∈ s.Received, shSz r
theorem srvSz.big {k : Nat} {s : DServer} (h : srvSz k s) (hk : k ≤ 1024) : bigS s := ⟨by have := h.1; omega, fun r hr => ⟨by have := (h.2 r hr).1; omega, fun x hx => by have := (h.2 r hr).2 x hx; omega⟩⟩
theorem srvSz.put {k : Nat} {s : DServer} (h : srvSz k s) {a : Int} {d : DDatabase} (hd : shSz ⟨a, d⟩) : srvSz (k + 1) (rcv s a d) ∧ (rcv s a d).Rows = s.Rows ∧ (rcv s a d).Received.length ≤ s.Received.length + 1 := by
  unfold rcv rcvF
  split
  · have e : (rcvI s a d (insK s.Received a)).Received = s.Received.take (insK s.Received a) ++ [⟨a, d⟩] ++ s.Received.drop (insK s.Received a) := rfl
    have hl : (rcvI s a d (insK s.Received a)).Received.length ≤ s.Received.length + 1 := by
      rw [e]; simp only [List.length_append, List.length_take, List.length_drop, List.length_cons, List.length_nil]; omega
    refine ⟨⟨by have := h.1; omega, fun r hr => ?_⟩, rfl, hl⟩
    rw [e] at hr
    simp only [List.mem_append, List.mem_cons, List.not_mem_nil, or_false] at hr
    rcases hr with (hr | rfl) | hr
    · exact h.2 r (List.mem_of_mem_take hr)
    · exact hd
    · exact h.2 r (List.mem_of_mem_drop hr)
  · exact ⟨⟨by have := h.1; omega, h.2⟩, rfl, by omega⟩
structure LV where
  n : Int
  s : DServer
  c : Cu
structure LVok (x : LV) : Prop where
  ok : x.c.ok
  n : 0 ≤ x.n ∧ x.n ≤ 5
  R : 1 ≤ x.s.Rows ∧ x.s.Rows ≤ 4
  len : x.s.Received.length + x.n.toNat ≤ 5
  z : srvSz 5 x.s
def stV (x : LV) : St := ⟨[(0, .pin (.ptr 0 0)), (2, .ptr 1 0), (3, .ptr 2 0), (4, vi x.n)], [(0, .box [.anc (L eU x.c.b), .t (I x.c.i), .t (I x.c.h)]), (1, .box [.t (I 0), .t (I 0), .t (I 0), .nil, .t (I 0)]), (2, .box [.t (I x.s.Id), .t (I x.s.Rows), .t (I x.s.Round), .ref 3, .t (I x.s.Behavior)]), (3, .row true true 2 (x.s.Received.map DReceivedShare.e))], 4⟩
theorem newServer_rows {i n b : Int} (hi : 0 ≤ i ∧ i < 3) (hn : 0 ≤ n ∧ n < 4) (hb : b ∈ ([0, 0, 1, 2, 3] : List Int)) : (newServer i (IntKind.i64.wrap (1 + n)) b).Rows = 1 + n ∧ (newServer i (IntKind.i64.wrap (1 + n)) b).Received = [] := by
  have hb2 : 0 ≤ b ∧ b ≤ 3 := by
    simp only [List.mem_cons, List.not_mem_nil, or_false] at hb
    omega
  rw [w64_ok (by omega) (by omega)]
  unfold newServer
  rw [if_pos]
  · exact ⟨rfl, rfl⟩
  · simp only [Bool.and_eq_true, inR_iff]
    omega
theorem LVok.start {i n b v : Int} (hi : 0 ≤ i ∧ i < 3) (hn : 0 ≤ n ∧ n < 4) (hb : b ∈ ([0, 0, 1, 2, 3] : List Int)) {r : Int} (hv : 0 ≤ v ∧ v < 5) {c : Cu} (hc : c.ok) : LVok ⟨v, ⟨(newServer i (IntKind.i64.wrap (1 + n)) b).Id, (newServer i (IntKind.i64.wrap (1 + n)) b).Rows, r, [], (newServer i (IntKind.i64.wrap (1 + n)) b).Behavior⟩, c⟩ := by
  have h := newServer_rows hi hn hb
  refine ⟨hc, by show 0 ≤ v ∧ v ≤ 5; omega, ?_, by show 0 + v.toNat ≤ 5; omega, ⟨Nat.zero_le _, fun r hr => by cases hr⟩⟩
  show 1 ≤ (newServer i (IntKind.i64.wrap (1 + n)) b).Rows ∧ (newServer i (IntKind.i64.wrap (1 + n)) b).Rows ≤ 4
  rw [h.1]; omega
theorem shSz_dbR {a : Int} {c : Cu} {n : Nat} (hn : n ≤ 64) : shSz ⟨a, ⟨dbR c n⟩⟩ := by
  refine ⟨by show (dbR c n).length ≤ 64; rw [dbR_len]; exact hn, fun x hx => ?_⟩
  have hx' : x ∈ dbR c n := hx
  unfold dbR at hx'
  obtain ⟨j, _, rfl⟩ := List.mem_map.1 hx'
  rw [byV_len]; decide
theorem LVok.next {x : LV} (h : LVok x) (hn : 0 < x.n) {a : Int} {c' c : Cu} (hc : c.ok) : LVok ⟨IntKind.i64.wrap (x.n - 1), rcv x.s a ⟨dbR c' x.s.Rows.toNat⟩, c⟩ ∧ (IntKind.i64.wrap (x.n - 1)).toNat < x.n.toNat := by
  have h1 := h.n
  have h2 := h.len
  have h3 := h.R
  obtain ⟨k1, k2, k3⟩ := h.z.put (a := a) (shSz_dbR (c := c') (n := x.s.Rows.toNat) (by omega))
  rw [w64_ok (by omega) (by omega)]
  refine ⟨⟨hc, by show 0 ≤ x.n - 1 ∧ x.n - 1 ≤ 5; omega, by show 1 ≤ (rcv x.s a ⟨dbR c' x.s.Rows.toNat⟩).Rows ∧ (rcv x.s a ⟨dbR c' x.s.Rows.toNat⟩).Rows ≤ 4; rw [k2]; exact h3, ?_, ?_⟩, by omega⟩
  · show (rcv x.s a ⟨dbR c' x.s.Rows.toNat⟩).Received.length + (x.n - 1).toNat ≤ 5
    omega
  · exact ⟨by show (rcv x.s a ⟨dbR c' x.s.Rows.toNat⟩).Received.length ≤ 5; omega, k1.2⟩
theorem shSz.bigB {a : Int} {d : DDatabase} (h : shSz ⟨a, d⟩) : bigB d.Rows := ⟨Nat.le_trans h.1 (by decide), fun x hx => Nat.le_trans (h.2 x hx) (by decide)⟩
theorem e_l25Server (c : Cu) (h : c.ok) : CurE Tryz.prog 106 (Cu.e c) [] (DServer × Cu) (fun x => Cu.e x.2) (fun x => [.agg (DServer.r x.1)]) (fun x => srvSz 5 x.1 ∧ x.2.ok) := by
  refine curE_of Tryz.func106 rfl (by kernel_rfl) rfl ?_
  all_goals repeat' (first | (with_reducible rfl) | ((conv => whnf); first | (refine Or.inr ⟨rfl, Or.inl ?_⟩; (conv => whnf); refine inAt_curK ?_ (e_lW c 3 h (by decide)) (by rfl) (by rfl) (by rfl); rintro ⟨v1, c1⟩ ⟨h1, hc1⟩) | (refine Or.inr ⟨rfl, Or.inl ?_⟩; (conv => whnf); refine inAt_curK ?_ (e_lW c1 4 hc1 (by decide)) (by rfl) (by rfl) (by rfl); rintro ⟨v2, c2⟩ ⟨h2, hc2⟩) | (refine Or.inr ⟨rfl, Or.inl ?_⟩; (conv => whnf); refine inAt_curK ?_ (e_lI c2 [0, 0, 1, 2, 3] hc2 (by decide) (by decide)) (by rfl) (by rfl) (by rfl); rintro ⟨v3, c3⟩ ⟨h3, hc3⟩) | refine ⟨_, c_sNewServer v1 (IntKind.i64.wrap (1 + v2)) v3, ?_⟩ | (refine Or.inr ⟨rfl, Or.inl ?_⟩; (conv => whnf); refine inAt_curK ?_ (e_lW c3 9 hc3 (by decide)) (by rfl) (by rfl) (by rfl); rintro ⟨v4, c4⟩ ⟨h4, hc4⟩) | (refine Or.inr ⟨rfl, Or.inl ?_⟩; (conv => whnf); refine inAt_curK ?_ (e_lW c4 5 hc4 (by decide)) (by rfl) (by rfl) (by rfl); rintro ⟨v5, c5⟩ ⟨h5, hc5⟩) | exact trivial | (with_reducible rfl) | exact (rfl : (0 : Int) = ((0 : Nat) : Int)) | exact w64_nat arith | refine bcase_T (by first | with_reducible rfl | decide) ?_ | refine bcase_F (by first | with_reducible rfl | decide) ?_ | refine bcase_dec (fun _ => ?_) (fun _ => ?_) | refine bcase_not ?_ | refine bcase_intro (fun _ => ?_) (fun _ => ?_) | refine ⟨(by with_reducible rfl), ?_⟩ | refine ⟨congrArg vi ?_, ?_⟩ | refine ⟨congrArg vb ?_, ?_⟩ | refine ⟨rfl, ?_⟩ | refine ⟨(by kernel_rfl : drawOK _ = true), ?_⟩ | refine Or.inl ?_ | refine ⟨⟨congrArg (T.int _) ?_, rfl⟩, ?_⟩ | refine ⟨⟨congrArg T.bool ?_, rfl⟩, ?_⟩ | refine ⟨⟨rfl, Nat.le_of_ble_eq_true rfl⟩, ?_⟩ | refine ⟨⟨rfl, rfl⟩, ?_⟩ | refine ⟨⟨rfl, (by decide)⟩, ?_⟩ | refine ⟨⟨rfl, ?_⟩, ?_⟩ | refine ⟨Or.inr rfl, ?_⟩ | refine ⟨Or.inl rfl, ?_⟩ | refine ⟨⟨⟨rfl, rfl, rfl⟩, ?_⟩, ?_⟩ | refine ⟨_, _, rfl, row_get _ _ arith, rfl, ?_⟩ | refine ⟨Or.inr (by repeat (first | exact trivial | refine ⟨rfl, ?_⟩)), ?_⟩ | refine ⟨(?_ : _ = ([] : List (List T))), ?_⟩ | fail))
  all_goals (conv => whnf)
  dsimp only at h1 h2 h3 h4 h5 hc5
  have e0 := (newServer_rows h1 h2 h3).2
  refine ⟨LV, LVok, stV, fun x => x.n.toNat, ⟨v5, ⟨(newServer v1 (IntKind.i64.wrap (1 + v2)) v3).Id, (newServer v1 (IntKind.i64.wrap (1 + v2)) v3).Rows, v4, [], (newServer v1 (IntKind.i64.wrap (1 + v2)) v3).Behavior⟩, c5⟩, LVok.start h1 h2 h3 h5 hc5, sub_at2 [(0, 0, 0), (1, 2, 0), (2, 3, 0), (3, 3, 4)] rfl rfl rfl ?_ ?_, fun x hx => ?_⟩
  case' refine_3 =>
    have hk := hx.ok
    have hR := hx.R
    by_cases hn : 0 < x.n
    case pos =>
      all_goals repeat' (first | (with_reducible rfl) | ((conv => whnf); first | refine bcase_T (decide_eq_true hn) ?_ | refine Or.inr ⟨(by kernel_rfl), 0, ⟨_, rfl⟩, ?_⟩ | (refine Or.inl ?_; (conv => whnf); first | refine cur_ex (c_l1Below ?_ ?_ ?_) (by rfl) (by rfl) ?_ | refine cur_ex (c_l1BytesG ?_ ?_ ?_ ?_) (by rfl) (by rfl) ?_) | (refine Or.inl ?_; (conv => whnf); first | refine cur_ex (c_l8DatabaseI (beN x.c 6) x.s.Rows x.s.Rows.toNat (beN_ok hk) (by omega) (by omega)) (by rfl) (by rfl) ?_) | (refine Or.inr (?_ : hidO _ _ _ _ _ _ _); (conv => whnf); refine Or.inl ?_; (conv => whnf); refine ⟨_, c_sReceiveShare x.s (beV x.c 6) ⟨dbR (beN x.c 6) x.s.Rows.toNat⟩ (by have := hx.z.1; omega) (hx.z.big (by decide)) (shSz_dbR (a := 0) (c := beN x.c 6) (n := x.s.Rows.toNat) (by omega)).bigB, ?_⟩) | (show Cu.ok _; repeat (first | assumption | refine beN_ok ?_ | refine cuI_ok ?_ _)) | refine ⟨⟨IntKind.i64.wrap (x.n - 1), rcv x.s (beV x.c 6) ⟨dbR (beN x.c 6) x.s.Rows.toNat⟩, cuI (beN x.c 6) (24 * x.s.Rows.toNat)⟩, LVok.next hx hn (cuI_ok (beN_ok hk) _), sub_at2 [(0, 0, 0), (1, 2, 0), (2, 3, 0), (3, 3, 4)] rfl rfl rfl ?_ ?_⟩ | exact trivial | (with_reducible rfl) | exact (rfl : (0 : Int) = ((0 : Nat) : Int)) | exact w64_nat arith | refine bcase_T (by first | with_reducible rfl | decide) ?_ | refine bcase_F (by first | with_reducible rfl | decide) ?_ | refine bcase_dec (fun _ => ?_) (fun _ => ?_) | refine bcase_not ?_ | refine bcase_intro (fun _ => ?_) (fun _ => ?_) | refine ⟨(by with_reducible rfl), ?_⟩ | refine ⟨congrArg vi ?_, ?_⟩ | refine ⟨congrArg vb ?_, ?_⟩ | refine ⟨rfl, ?_⟩ | refine ⟨(by kernel_rfl : drawOK _ = true), ?_⟩ | refine Or.inl ?_ | refine ⟨⟨congrArg (T.int _) ?_, rfl⟩, ?_⟩ | refine ⟨⟨congrArg T.bool ?_, rfl⟩, ?_⟩ | refine ⟨⟨rfl, Nat.le_of_ble_eq_true rfl⟩, ?_⟩ | refine ⟨⟨rfl, rfl⟩, ?_⟩ | refine ⟨⟨rfl, (by decide)⟩, ?_⟩ | refine ⟨⟨rfl, ?_⟩, ?_⟩ | refine ⟨Or.inr rfl, ?_⟩ | refine ⟨Or.inl rfl, ?_⟩ | refine ⟨⟨⟨rfl, rfl, rfl⟩, ?_⟩, ?_⟩ | refine ⟨_, _, rfl, row_get _ _ arith, rfl, ?_⟩ | refine ⟨Or.inr (by repeat (first | exact trivial | refine ⟨rfl, ?_⟩)), ?_⟩ | refine ⟨(?_ : _ = ([] : List (List T))), ?_⟩ | fail))
      all_goals (first | rfl | trace_state)
    case neg =>
      all_goals repeat' (first | (with_reducible rfl) | ((conv => whnf); first | refine bcase_F (decide_eq_false hn) ?_ | refine exQ (x.s, x.c) ?_ ⟨hx.z, hk⟩ | exact trivial | (with_reducible rfl) | exact (rfl : (0 : Int) = ((0 : Nat) : Int)) | exact w64_nat arith | refine bcase_T (by first | with_reducible rfl | decide) ?_ | refine bcase_F (by first | with_reducible rfl | decide) ?_ | refine bcase_dec (fun _ => ?_) (fun _ => ?_) | refine bcase_not ?_ | refine bcase_intro (fun _ => ?_) (fun _ => ?_) | refine ⟨(by with_reducible rfl), ?_⟩ | refine ⟨congrArg vi ?_, ?_⟩ | refine ⟨congrArg vb ?_, ?_⟩ | refine ⟨rfl, ?_⟩ | refine ⟨(by kernel_rfl : drawOK _ = true), ?_⟩ | refine Or.inl ?_ | refine ⟨⟨congrArg (T.int _) ?_, rfl⟩, ?_⟩ | refine ⟨⟨congrArg T.bool ?_, rfl⟩, ?_⟩ | refine ⟨⟨rfl, Nat.le_of_ble_eq_true rfl⟩, ?_⟩ | refine ⟨⟨rfl, rfl⟩, ?_⟩ | refine ⟨⟨rfl, (by decide)⟩, ?_⟩ | refine ⟨⟨rfl, ?_⟩, ?_⟩ | refine ⟨Or.inr rfl, ?_⟩ | refine ⟨Or.inl rfl, ?_⟩ | refine ⟨⟨⟨rfl, rfl, rfl⟩, ?_⟩, ?_⟩ | refine ⟨_, _, rfl, row_get _ _ arith, rfl, ?_⟩ | refine ⟨Or.inr (by repeat (first | exact trivial | refine ⟨rfl, ?_⟩)), ?_⟩ | refine ⟨(?_ : _ = ([] : List (List T))), ?_⟩ | fail))
      all_goals (first | rfl | trace_state)
  all_goals repeat' (first | (with_reducible rfl) | ((conv => whnf); first | exact trivial | (with_reducible rfl) | exact (rfl : (0 : Int) = ((0 : Nat) : Int)) | exact w64_nat arith | refine bcase_T (by first | with_reducible rfl | decide) ?_ | refine bcase_F (by first | with_reducible rfl | decide) ?_ | refine bcase_dec (fun _ => ?_) (fun _ => ?_) | refine bcase_not ?_ | refine bcase_intro (fun _ => ?_) (fun _ => ?_) | refine ⟨(by with_reducible rfl), ?_⟩ | refine ⟨congrArg vi ?_, ?_⟩ | refine ⟨congrArg vb ?_, ?_⟩ | refine ⟨rfl, ?_⟩ | refine ⟨(by kernel_rfl : drawOK _ = true), ?_⟩ | refine Or.inl ?_ | refine ⟨⟨congrArg (T.int _) ?_, rfl⟩, ?_⟩ | refine ⟨⟨congrArg T.bool ?_, rfl⟩, ?_⟩ | refine ⟨⟨rfl, Nat.le_of_ble_eq_true rfl⟩, ?_⟩ | refine ⟨⟨rfl, rfl⟩, ?_⟩ | refine ⟨⟨rfl, (by decide)⟩, ?_⟩ | refine ⟨⟨rfl, ?_⟩, ?_⟩ | refine ⟨Or.inr rfl, ?_⟩ | refine ⟨Or.inl rfl, ?_⟩ | refine ⟨⟨⟨rfl, rfl, rfl⟩, ?_⟩, ?_⟩ | refine ⟨_, _, rfl, row_get _ _ arith, rfl, ?_⟩ | refine ⟨Or.inr (by repeat (first | exact trivial | refine ⟨rfl, ?_⟩)), ?_⟩ | refine ⟨(?_ : _ = ([] : List (List T))), ?_⟩ | fail))
  all_goals first
    | exact congrArg (List.map DReceivedShare.e) e0
    | rfl
    | trace_state
end Go.Proofs.YteecgbgdmfjogaaGreat

namespace Go.Proofs.YteecgbgdmfjogaaGreat
set_option maxHeartbeats 4000000
set_option maxRecDepth 20000
open Go.Vm Go.RowKit
attribute [local irreducible] FnAt MutAt InAt JAt CurAt FnE CurE RegAt
theorem anV_sz (a : Int) (c : Cu) : shSz ⟨a, anV c⟩ := by
  have h7 := (beT_eq c 7 (by decide)).2
  have h3 := (beT_eq (anC2 c) 3 (by decide)).2
  have hr : ∀ x ∈ dbR (beN c 7) (beT c 7), x.length ≤ 64 := (shSz_dbR (a := 0) (c := beN c 7) (n := beT c 7) (by omega)).2
  have hl := dbR_len (beN c 7) (beT c 7)
  unfold anV
  split
  · refine ⟨?_, fun x hx => ?_⟩
    · show (dbR (beN c 7) (beT c 7) ++ [_]).length ≤ 64
      rw [List.length_append, hl]; simp; omega
    · have hx' : x ∈ dbR (beN c 7) (beT c 7) ++ [byV (beN (anC2 c) 3) (23 + beT (anC2 c) 3)] := hx
      rcases List.mem_append.1 hx' with h | h
      · exact hr x h
      · rw [List.mem_singleton.1 h, byV_len]; omega
  · split
    · have e : newDb 64 = ⟨List.replicate 64 zero24⟩ := rfl
      refine ⟨by show (newDb 64).Rows.length ≤ 64; rw [e]; exact Nat.le_of_eq List.length_replicate, fun x hx => ?_⟩
      have hx' : x ∈ (newDb 64).Rows := hx
      rw [e] at hx'
      rw [(List.mem_replicate.1 hx').2]
      decide
    · exact ⟨by show (dbR (beN c 7) (beT c 7)).length ≤ 64; rw [hl]; omega, hr⟩
attribute [local irreducible] beN cuI cuN beV byV newServer IntKind.wrap rcv rcvOk nwC dbR anV anN
def rowsS (k : Nat) (r : List (List T)) : Prop := ∃ l : List DReceivedShare, r = l.map DReceivedShare.e ∧ l.length ≤ k ∧ ∀ x ∈ l, shSz x
theorem rowsS.of {k n : Nat} {l : List DReceivedShare} (h : l.length ≤ k ∧ ∀ r ∈ l, shSz r) (hk : k ≤ n) : rowsS n (l.map DReceivedShare.e) := ⟨l, rfl, Nat.le_trans h.1 hk, h.2⟩
theorem rowsS.add {k n : Nat} {l : List DReceivedShare} {x : DReceivedShare} {r : List (List T)} (h : l.length ≤ k ∧ ∀ r ∈ l, shSz r) (hk : k + 1 ≤ n) (hx : shSz x) (hr : r = [DReceivedShare.e x]) : rowsS n (l.map DReceivedShare.e ++ r) := by
  refine ⟨l ++ [x], by rw [List.map_append, hr]; rfl, by simp only [List.length_append, List.length_cons, List.length_nil]; omega, fun y hy => ?_⟩
  rcases List.mem_append.1 hy with hy | hy
  · exact h.2 y hy
  · rw [List.mem_singleton.1 hy]; exact hx
structure FSv where
  a1 : Int
  a2 : Int
  a3 : Int
  r : List (List T)
  a4 : Int
  c : Cu
structure FSv.ok (x : FSv) : Prop where
  r : rowsS 6 x.r
  c : x.c.ok
theorem FSv.ok.to {x : FSv} (h : x.ok) : ∃ y : DServer × Cu, (srvSz 6 y.1 ∧ y.2.ok) ∧ Cu.e x.c = Cu.e y.2 ∧ [RV.agg [.s (I x.a1), .s (I x.a2), .s (I x.a3), .l 2 x.r, .s (I x.a4)]] = [RV.agg (DServer.r y.1)] := by
  obtain ⟨⟨l, e1, h1, h2⟩, h5⟩ := h
  exact ⟨(⟨x.a1, x.a2, x.a3, l, x.a4⟩, x.c), ⟨⟨h1, h2⟩, h5⟩, rfl, by rw [e1]; rfl⟩
theorem appSh {l : List DReceivedShare} (h : l.length ≤ 5) : ((l.map DReceivedShare.e).length + 1) * 32 ≤ 140737488355328 ∧ (l.map DReceivedShare.e).length + 1 ≤ 140737488355328 := by rw [List.length_map]; omega
theorem e_l25Any0 (c : Cu) (h : c.ok) : CurE Tryz.prog 77 (Cu.e c) [] FSv (fun x => Cu.e x.c) (fun x => [.agg [.s (I x.a1), .s (I x.a2), .s (I x.a3), .l 2 x.r, .s (I x.a4)]]) FSv.ok := by
  refine curE_of Tryz.func77 rfl (by kernel_rfl) rfl ?_
  all_goals repeat' (first | (with_reducible rfl) | ((conv => whnf); first | (refine Or.inr ⟨rfl, Or.inl ?_⟩; (conv => whnf); refine inAt_curK ?_ (e_l25Server c h) (by rfl) (by rfl) (by rfl); rintro ⟨s, c1⟩ ⟨hs, hc1⟩) | (refine Or.inr ⟨rfl, Or.inl ?_⟩; (conv => whnf); refine inAt_curK ?_ (e_lW c1 12 hc1 (by decide)) (by rfl) (by rfl) (by rfl); rintro ⟨v, c2⟩ ⟨hv, hc2⟩) | (refine Or.inr ⟨rfl, Or.inl ?_⟩; (conv => whnf); refine inAt_curK ?_ (e_lI c2 [-1, 3, 4] hc2 (by decide) (by decide)) (by rfl) (by rfl) (by rfl); rintro ⟨i1, c3⟩ ⟨hi1, hc3⟩) | (refine Or.inr ⟨rfl, Or.inl ?_⟩; (conv => whnf); refine inAt_curK ?_ (e_lI c2 [0, IntKind.i64.wrap (s.Rows + 1), 65] hc2 (by show 0 < 3; decide) (by show 3 ≤ 1099511627776; decide)) (by rfl) (by rfl) (by rfl); rintro ⟨i1, c3⟩ ⟨hi1, hc3⟩) | (refine Or.inr ⟨rfl, Or.inl ?_⟩; (conv => whnf); refine inAt_curK ?_ (e_lI c2 [-1, 100000, 100001] hc2 (by decide) (by decide)) (by rfl) (by rfl) (by rfl); rintro ⟨i1, c3⟩ ⟨hi1, hc3⟩) | (refine Or.inr ⟨rfl, Or.inl ?_⟩; (conv => whnf); refine inAt_curK ?_ (e_lI c2 [-1, 4] hc2 (by decide) (by decide)) (by rfl) (by rfl) (by rfl); rintro ⟨i1, c3⟩ ⟨hi1, hc3⟩) | refine Or.inr ⟨(by kernel_rfl), 0, ⟨_, rfl⟩, ?_⟩ | (refine Or.inl ?_; (conv => whnf); first | refine cur_ex (c_l1Below ?_ ?_ ?_) (by rfl) (by rfl) ?_ | refine cur_ex (c_l1BytesG ?_ ?_ ?_ ?_) (by rfl) (by rfl) ?_) | (refine Or.inl ?_; (conv => whnf); first | refine cur_ex (c_l1Int c2 [-1, 0, 7, 8] hc2 (by decide) (by decide)) (by rfl) (by rfl) ?_ | refine cur_ex (c_l8Any (beN c2 (([-1, 0, 7, 8] : List Int).length : Int)) (beN_ok hc2)) (by rfl) (by rfl) ?_) | refine ⟨appSh (l := s.Received) hs.1, ?_⟩ | refine exQ ⟨?_, ?_, ?_, ?_, ?_, ?_⟩ ?_ ?_ | exact trivial | (with_reducible rfl) | exact (rfl : (0 : Int) = ((0 : Nat) : Int)) | exact w64_nat arith | refine bcase_T (by first | with_reducible rfl | decide) ?_ | refine bcase_F (by first | with_reducible rfl | decide) ?_ | refine bcase_dec (fun _ => ?_) (fun _ => ?_) | refine bcase_not ?_ | refine bcase_intro (fun _ => ?_) (fun _ => ?_) | refine ⟨(by with_reducible rfl), ?_⟩ | refine ⟨congrArg vi ?_, ?_⟩ | refine ⟨congrArg vb ?_, ?_⟩ | refine ⟨rfl, ?_⟩ | refine ⟨(by kernel_rfl : drawOK _ = true), ?_⟩ | refine Or.inl ?_ | refine ⟨⟨congrArg (T.int _) ?_, rfl⟩, ?_⟩ | refine ⟨⟨congrArg T.bool ?_, rfl⟩, ?_⟩ | refine ⟨⟨rfl, Nat.le_of_ble_eq_true rfl⟩, ?_⟩ | refine ⟨⟨rfl, rfl⟩, ?_⟩ | refine ⟨⟨rfl, (by decide)⟩, ?_⟩ | refine ⟨⟨rfl, ?_⟩, ?_⟩ | refine ⟨Or.inr rfl, ?_⟩ | refine ⟨Or.inl rfl, ?_⟩ | refine ⟨⟨⟨rfl, rfl, rfl⟩, ?_⟩, ?_⟩ | refine ⟨_, _, rfl, row_get _ _ arith, rfl, ?_⟩ | refine ⟨Or.inr (by repeat (first | exact trivial | refine ⟨rfl, ?_⟩)), ?_⟩ | refine ⟨(?_ : _ = ([] : List (List T))), ?_⟩ | fail))
  all_goals first
    | exact ⟨rowsS.of hs (by decide), hc3⟩
    | exact ⟨rowsS.of hs (by decide), hc2⟩
    | exact ⟨rowsS.add hs (by decide) (anV_sz _ _) rfl, anN_ok (beN_ok hc2)⟩
    | trace_state
theorem e_l25Any (c : Cu) (h : c.ok) : CurE Tryz.prog 77 (Cu.e c) [] (DServer × Cu) (fun x => Cu.e x.2) (fun x => [.agg (DServer.r x.1)]) (fun x => srvSz 6 x.1 ∧ x.2.ok) :=
  curE_map (e_l25Any0 c h) fun _ hx => hx.to
end Go.Proofs.YteecgbgdmfjogaaGreat
