/-
  Contract: what the reference draws of a round: servers that received shares, what they published, the receipts.
  Conditions: none.
-/
import Derived.Test.YtpipfobdfcnghaaFnRp
import Derived.Test.YtpipfobdfcnghaaFnDm
import Derived.Test.YtpipfobdfcnghaaFnPa
namespace Go.Proofs.Ytpipfobdfcnghaa
set_option maxHeartbeats 4000000
set_option maxRecDepth 20000
open Go.Vm Go.RowKit
attribute [local irreducible] FnAt MutAt InAt JAt CurAt FnE CurE RegAt

attribute [local irreducible] beN cuI cuN beV byV shareDig rcMac servKey newServer makeW rcv rcvOk mkRcpt pubS nwC
theorem curE_of_curAt {P : Program} {f : FuncId} {cs cs0 : List T} {xs : List V} {rs0 : List RV} {X : Type} {cs' : X → List T} {rs : X → List RV} {Q : X → Prop} (x : X) (h : CurAt P f cs cs0 xs rs0) (h1 : cs' x = cs0) (h2 : rs x = rs0) (hq : Q x) : CurE P f cs xs X cs' rs Q := by
  unfold CurE
  unfold CurAt at h
  refine ⟨h.1, fun w g us e F vs k1 k2 k3 k4 => (h.2 w g us e F vs k1 k2 k3 k4).mono ?_⟩
  intro ex w' hp
  exact ⟨x, hq, by rw [h1, h2]; exact hp⟩
theorem e_lB (c : Cu) (n : Int) (h : c.ok) (hn : 0 < n) : CurE Try.prog 37 (Cu.e c) [.one (I n)] (Int × Cu) (fun x => Cu.e x.2) (fun x => [.one (.s (I x.1))]) (fun x => (0 ≤ x.1 ∧ x.1 < n) ∧ x.2.ok) :=
  curE_of_curAt (beV c n, beN c n) (c_l1Below c n h) rfl rfl ⟨beV_lt hn, beN_ok h⟩
theorem e_l6 (c : Cu) (h : c.ok) : CurE Try.prog 39 (Cu.e c) [.one (L eI [0, 0, 0, 1, 2, 3])] (Int × Cu) (fun x => Cu.e x.2) (fun x => [.one (.s (I x.1))]) (fun x => (0 ≤ x.1 ∧ x.1 ≤ 3) ∧ x.2.ok) :=
  curE_of_curAt (_, _) (c_l1Int c [0, 0, 0, 1, 2, 3] h (by decide) (by decide)) rfl rfl ⟨by
    have hb := beV_lt (c := c) (n := (([0, 0, 0, 1, 2, 3] : List Int).length : Int)) (by decide)
    generalize (beV c (([0, 0, 0, 1, 2, 3] : List Int).length : Int)) = v at hb
    have h6 : (([0, 0, 0, 1, 2, 3] : List Int).length : Int) = 6 := rfl
    rw [h6] at hb
    show 0 ≤ ([0, 0, 0, 1, 2, 3] : List Int)[v.toNat]?.getD 0 ∧ ([0, 0, 0, 1, 2, 3] : List Int)[v.toNat]?.getD 0 ≤ 3
    have hv : v.toNat = 0 ∨ v.toNat = 1 ∨ v.toNat = 2 ∨ v.toNat = 3 ∨ v.toNat = 4 ∨ v.toNat = 5 := by omega
    rcases hv with e | e | e | e | e | e <;> rw [e] <;> decide, beN_ok h⟩
theorem e_by24 (c : Cu) (h : c.ok) : CurE Try.prog 41 (Cu.e c) [.one (I 24)] (List UInt8 × Cu) (fun x => Cu.e x.2) (fun x => [.one (.l 1 (x.1.map eU))]) (fun x => x.1.length = 24 ∧ x.2.ok) :=
  curE_of_curAt (byV c 24, cuI c 24) (c_l1Bytes c 24 h (by decide)) rfl rfl ⟨byV_len c 24, cuI_ok h 24⟩
structure LS0 where
  i : Nat
  l : List DServer
  c : Cu
structure LS0.ok (R : Int) (n : Nat) (x : LS0) : Prop where
  c : x.c.ok
  i : x.i ≤ n
  len : x.l.length = x.i
  l : ∀ (j : Nat) (h : j < x.l.length), SrvOk R j 3 x.l[j] ∧ x.l[j].Received = []
structure LS2 where
  a : Int
  sv : List DServer
  rc : List DReceipt
  c : Cu
structure LS2.ok (M R : Int) (n : Nat) (x : LS2) : Prop where
  c : x.c.ok
  a : 0 ≤ x.a ∧ x.a ≤ 3
  r : RnI M R n (fun _ => x.a) x.sv x.rc
  len : (x.rc.length : Int) + 3 * x.a ≤ 9
structure LS4 where
  i : Nat
  ss : List Int
  c : Cu
structure LS4.ok (n : Nat) (x : LS4) : Prop where
  c : x.c.ok
  i : x.i ≤ n
  len : x.ss.length + 1 = x.i
  s : ∀ s ∈ x.ss, 0 ≤ s ∧ s < 9999
structure LS6 where
  i : Nat
  sv : List DServer
  rc : List DReceipt
structure LS6.ok (M R : Int) (n : Nat) (a : Int) (x : LS6) : Prop where
  i : x.i ≤ n
  r : RnI M R n (fun j => if j < x.i then a - 1 else a) x.sv x.rc
  len : (x.rc.length : Int) + 3 * a ≤ 9 + x.i
structure RD where
  M : Int
  R : Int
  n : Nat
  sv : List DServer
  rc : List DReceipt
  c : Cu
structure RD.ok (M : Int) (x : RD) : Prop where
  M : x.M = M
  R : 1 ≤ x.R ∧ x.R ≤ 3
  n : 2 ≤ x.n ∧ x.n ≤ 3
  r : RnI x.M x.R x.n (fun _ => 0) x.sv x.rc
  len : x.rc.length ≤ 9
  c : x.c.ok
theorem RnI.congr {M R : Int} {n : Nat} {k k' : Nat → Int} {sv : List DServer} {rc : List DReceipt} (h : RnI M R n k sv rc) (e : ∀ j, j < n → k j = k' j) : RnI M R n k' sv rc :=
  ⟨h.len, fun i hi => by rw [← e i (by rw [← h.len]; exact hi)]; exact h.srv i hi, h.rc1, h.rc2⟩
theorem mod3 (v m k : Int) (hm : 0 ≤ v ∧ v < m) (h1 : m ≤ 1000) (hk : 0 ≤ k ∧ k ≤ 2) : IntKind.i64.wrap (k + v) = k + v := w64_ok (by omega) (by omega)
def stR (M R : Int) (n : Nat) (c : Cu) (env : List (Nat × AV)) (objs : List (Nat × Ob)) (next : Nat) : St :=
  ⟨(0, .pin (.ptr 0 0)) :: (6, vi M) :: (7, vi R) :: (8, vi n) :: env, (0, .box [.anc (L eU c.b), .t (I c.i), .t (I c.h)]) :: objs, next⟩
theorem appS {l : List DServer} (h : l.length ≤ 3) : ((l.map DServer.e).length + 1) * 56 ≤ 140737488355328 ∧ (l.map DServer.e).length + 1 ≤ 140737488355328 := by rw [List.length_map]; omega
theorem appRc {l : List DReceipt} (h : l.length ≤ 1000) : ((l.map DReceipt.e).length + 1) * 40 ≤ 140737488355328 ∧ (l.map DReceipt.e).length + 1 ≤ 140737488355328 := by rw [List.length_map]; omega
theorem appDb {l : List DDatabase} (h : l.length ≤ 1000) : ((l.map DDatabase.e).length + 1) * 24 ≤ 140737488355328 ∧ (l.map DDatabase.e).length + 1 ≤ 140737488355328 := by rw [List.length_map]; omega
theorem appIb {l : List Int} (h : l.length ≤ 1000) : ((l.map eI).length + 1) * 8 ≤ 140737488355328 ∧ (l.map eI).length + 1 ≤ 140737488355328 := by rw [List.length_map]; omega
theorem exQr {X : Type} {Q R : X → Prop} (x : X) (h : R x) (hq : Q x) : ∃ x, Q x ∧ R x := ⟨x, hq, h⟩
theorem LS0.ok.next {R : Int} {n i : Nat} {l : List DServer} {c c' : Cu} {b : Int} (h : LS0.ok R n ⟨i, l, c⟩) (hR : 1 ≤ R ∧ R ≤ 64) (hn : n ≤ 3) (hi : i < n) (hb : 0 ≤ b ∧ b ≤ 3) (hc : c'.ok) : LS0.ok R n ⟨i + 1, l ++ [newServer i R b], c'⟩ := by
  have hl : l.length = i := h.len
  refine ⟨hc, hi, by simp [hl], fun j hj => ?_⟩
  simp only [List.length_append, List.length_cons, List.length_nil] at hj
  by_cases e : j < l.length
  · have := h.l j e
    simp only [List.getElem_append_left e]
    exact this
  · have e2 : j = i := by omega
    subst e2
    simp only [List.getElem_append_right (Nat.le_of_not_lt e), List.getElem_singleton]
    exact ⟨SrvOk.new hR (by omega) hb (by decide), newServer_sub _ _ _⟩
theorem LS2.start {M R A : Int} {n i : Nat} {l : List DServer} {c c' : Cu} (h : LS0.ok R n ⟨i, l, c⟩) (hi : ¬ i < n) (hA : 0 ≤ A ∧ A < 4) (hc : c'.ok) : LS2.ok M R n ⟨A, l, [], c'⟩ := by
  have h1 : i ≤ n := h.i
  have h2 : l.length = i := h.len
  exact ⟨hc, ⟨hA.1, by show A ≤ 3; omega⟩, ⟨by show l.length = n; omega, fun j hj => (h.l j hj).1.less (by show A ≤ 3; omega), fun j hj r hr => (by rw [(h.l j hj).2] at hr; cases hr), fun q hq => (by cases hq)⟩, by show ((0 : Nat) : Int) + 3 * A ≤ 9; omega⟩
theorem LS4.ok.next {n i : Nat} {ss : List Int} {c c' : Cu} {s : Int} (h : LS4.ok n ⟨i, ss, c⟩) (hi : i < n) (hs : 0 ≤ s ∧ s < 9999) (hc : c'.ok) : LS4.ok n ⟨i + 1, ss ++ [s], c'⟩ := by
  have hl : ss.length + 1 = i := h.len
  refine ⟨hc, hi, by simp [hl], fun x hx => ?_⟩
  rcases List.mem_append.1 hx with hx | hx
  · exact h.s x hx
  · rw [List.mem_singleton.1 hx]; exact hs
theorem LS6.start {M R : Int} {n : Nat} {a : Int} {sv : List DServer} {rc : List DReceipt} {c : Cu} (h : LS2.ok M R n ⟨a, sv, rc, c⟩) : LS6.ok M R n a ⟨0, sv, rc⟩ :=
  ⟨Nat.zero_le _, RnI.congr (k := fun _ => a) h.r (fun j _ => by simp), by have := h.len; show (rc.length : Int) + 3 * a ≤ 9 + ((0 : Nat) : Int); simp at this; omega⟩
theorem LS6.ok.next {M R : Int} {n i : Nat} {a : Int} {sv : List DServer} {rc : List DReceipt} {d : DDatabase} (h : LS6.ok M R n a ⟨i, sv, rc⟩) (hR : 1 ≤ R ∧ R ≤ 64) (ha : 1 ≤ a ∧ a ≤ 3) (hn : n ≤ 3) (hi : i < n) (hi2 : i < sv.length) (hd : full R.toNat d) (hz : i = 0 → ∃ sd : Int, 0 ≤ sd ∧ sd < 9999 ∧ d = wDb R sd) :
    LS6.ok M R n a ⟨i + 1, sv.set i (rcv sv[i] a d), rc ++ [mkRcpt (servKey M i) i a 0 d]⟩ := by
  refine ⟨hi, RnI.congr (h.r.step hR ha hn hi2 (by show (if i < i then a - 1 else a) = a; rw [if_neg (Nat.lt_irrefl i)]) hd hz) (fun j hj => ?_), ?_⟩
  · show (if j = i then a - 1 else if j < i then a - 1 else a) = if j < i + 1 then a - 1 else a
    by_cases e : j = i
    · rw [if_pos e, if_pos (by omega)]
    · rw [if_neg e]
      by_cases e2 : j < i
      · rw [if_pos e2, if_pos (by omega)]
      · rw [if_neg e2, if_neg (by omega)]
  · have : (rc.length : Int) + 3 * a ≤ 9 + (i : Int) := h.len
    show ((rc ++ [mkRcpt (servKey M i) i a 0 d]).length : Int) + 3 * a ≤ 9 + ((i + 1 : Nat) : Int)
    simp only [List.length_append, List.length_cons, List.length_nil]
    omega
theorem LS6.ok.next2 {M R : Int} {n i : Nat} {a : Int} {sv : List DServer} {rc : List DReceipt} {c : Cu} (h : LS6.ok M R n a ⟨i, sv, rc⟩) (hn : n ≤ 3) (hi : ¬ i < n) (ha : 1 ≤ a ∧ a ≤ 3) (hc : c.ok) : LS2.ok M R n ⟨IntKind.i64.wrap (a - 1), sv, rc, c⟩ := by
  have h1 : i ≤ n := h.i
  have h2 : (rc.length : Int) + 3 * a ≤ 9 + (i : Int) := h.len
  rw [w64_ok (by omega) (by omega)]
  refine ⟨hc, ⟨by show 0 ≤ a - 1; omega, by show a - 1 ≤ 3; omega⟩, RnI.congr h.r (fun j hj => ?_), by show (rc.length : Int) + 3 * (a - 1) ≤ 9; omega⟩
  show (if j < i then a - 1 else a) = a - 1
  rw [if_pos (by omega)]
theorem wrap_lt {a : Int} (ha : 1 ≤ a ∧ a ≤ 3) : (IntKind.i64.wrap (a - 1)).toNat < a.toNat := by rw [w64_ok (by omega) (by omega)]; omega
theorem LS6.ok.srv {M R : Int} {n i : Nat} {a : Int} {sv : List DServer} {rc : List DReceipt} (h : LS6.ok M R n a ⟨i, sv, rc⟩) (hi : i < sv.length) : SrvOk R i a sv[i] := by
  have := h.r.srv i hi
  have e : (if i < i then a - 1 else a) = a := if_neg (Nat.lt_irrefl i)
  exact e ▸ this
theorem full_sz {n : Nat} {d : DDatabase} (h : full n d) (hn : n ≤ 64) : szL List.length d.Rows ≤ 1099511620000 := by
  unfold szL
  rw [full_szL h.2, h.1]; omega
theorem e_l27Round (c : Cu) (h : c.ok) : CurE Try.prog 17 (Cu.e c) [] RD (fun x => Cu.e x.c) (fun x => [.one (.s (I x.M)), .one (.l 5 (x.sv.map DServer.e)), .one (.l 1 ((x.sv.map pubS).map DDatabase.e)), .one (.l 5 (x.rc.map DReceipt.e))]) (fun x => x.ok (IntKind.i64.wrap (1 + beV c 99))) := by
  refine curE_of Try.func17 rfl (by kernel_rfl) rfl ?_
  all_goals repeat' (first | (with_reducible rfl) | ((conv => whnf); first | (show Cu.ok _; repeat (first | assumption | refine beN_ok ?_ | refine cuI_ok ?_ _)) | (refine Or.inr ⟨rfl, Or.inl ?_⟩; (conv => whnf); refine inAt_cur (c_l1Below c 99 h) (by rfl) (by rfl) (by rfl) ?_) | (refine Or.inr ⟨rfl, Or.inl ?_⟩; (conv => whnf); refine inAt_curK ?_ (e_lB _ 3 (beN_ok h) (by decide)) (by rfl) (by rfl) (by rfl); rintro ⟨v2, c2⟩ ⟨hv2, hc2⟩) | (refine Or.inr ⟨rfl, Or.inl ?_⟩; (conv => whnf); refine inAt_curK ?_ (e_lB c2 2 hc2 (by decide)) (by rfl) (by rfl) (by rfl); rintro ⟨v3, c3⟩ ⟨hv3, hc3⟩) | exact trivial | (with_reducible rfl) | exact (rfl : (0 : Int) = ((0 : Nat) : Int)) | exact w64_nat arith | refine bcase_T (by first | with_reducible rfl | decide) ?_ | refine bcase_F (by first | with_reducible rfl | decide) ?_ | refine bcase_dec (fun _ => ?_) (fun _ => ?_) | refine bcase_not ?_ | refine bcase_intro (fun _ => ?_) (fun _ => ?_) | refine ⟨(by with_reducible rfl), ?_⟩ | refine ⟨congrArg vi ?_, ?_⟩ | refine ⟨congrArg vb ?_, ?_⟩ | refine ⟨rfl, ?_⟩ | refine ⟨(by kernel_rfl : drawOK _ = true), ?_⟩ | refine Or.inl ?_ | refine ⟨⟨congrArg (T.int _) ?_, rfl⟩, ?_⟩ | refine ⟨⟨congrArg T.bool ?_, rfl⟩, ?_⟩ | refine ⟨⟨rfl, Nat.le_of_ble_eq_true rfl⟩, ?_⟩ | refine ⟨⟨rfl, rfl⟩, ?_⟩ | refine ⟨⟨rfl, (by decide)⟩, ?_⟩ | refine ⟨⟨rfl, ?_⟩, ?_⟩ | refine ⟨Or.inr rfl, ?_⟩ | refine ⟨Or.inl rfl, ?_⟩ | refine ⟨⟨⟨rfl, rfl, rfl⟩, ?_⟩, ?_⟩ | refine ⟨_, _, rfl, row_get _ _ arith, rfl, ?_⟩ | refine ⟨Or.inr (by repeat (first | exact trivial | refine ⟨rfl, ?_⟩)), ?_⟩ | refine ⟨(?_ : _ = ([] : List (List T))), ?_⟩ | fail))
  all_goals (conv => whnf)
  dsimp only at hv2 hc2 hv3 hc3
  obtain ⟨M, hM⟩ : ∃ M, M = IntKind.i64.wrap (1 + beV c 99) := ⟨_, rfl⟩
  obtain ⟨R, hR⟩ : ∃ R, R = 1 + v2 := ⟨_, rfl⟩
  obtain ⟨n, hn⟩ : ∃ n : Nat, (n : Int) = 2 + v3 := ⟨(2 + v3).toNat, by omega⟩
  have hR1 : 1 ≤ R ∧ R ≤ 3 := by omega
  have hR2 : 1 ≤ R ∧ R ≤ 64 := by omega
  have hn1 : 2 ≤ n ∧ n ≤ 3 := by omega
  have hokR : okI R := by unfold okI; omega
  have eR : IntKind.i64.wrap (1 + v2) = R := by rw [hR]; exact w64_ok (by omega) (by omega)
  have en : IntKind.i64.wrap (2 + v3) = (n : Int) := by rw [hn]; exact w64_ok (by omega) (by omega)
  refine ⟨LS0, LS0.ok R n, fun x => stR M R n x.c [(9, .c (.ref 1)), (10, vi x.i)] [(1, .row true true 5 (x.l.map DServer.e))] 2, fun x => n - x.i, ⟨0, [], c3⟩, ⟨hc3, Nat.zero_le _, rfl, fun j hj => absurd hj (Nat.not_lt_zero _)⟩, sub_at2 [(0, 0, 0), (1, 9, 0)] rfl rfl rfl ?_ ?_, fun x hx => ?_⟩
  case' refine_3 =>
    obtain ⟨i, l, c4⟩ := x
    have hi1 : i ≤ n := hx.i
    have hl1 : l.length = i := hx.len
    have hc4 : c4.ok := hx.c
    by_cases hin : i < n
    case pos =>
      all_goals repeat' (first | (with_reducible rfl) | ((conv => whnf); first | refine bcase_T (decide_eq_true (show (i : Int) < (n : Int) from by omega)) ?_ | (refine Or.inr ⟨rfl, Or.inl ?_⟩; (conv => whnf); refine inAt_curK ?_ (e_l6 c4 hc4) (by rfl) (by rfl) (by rfl); rintro ⟨b, c5⟩ ⟨hb, hc5⟩) | refine ⟨_, c_sNewServer i R b, ?_⟩ | refine ⟨appS (l := l) (by omega), ?_⟩ | refine ⟨⟨i + 1, l ++ [newServer i R b], c5⟩, ⟨?_, ?_⟩, sub_at2 [(0, 0, 0), (1, 9, 0)] rfl rfl rfl ?_ ?_⟩ | exact trivial | (with_reducible rfl) | exact (rfl : (0 : Int) = ((0 : Nat) : Int)) | exact w64_nat arith | refine bcase_T (by first | with_reducible rfl | decide) ?_ | refine bcase_F (by first | with_reducible rfl | decide) ?_ | refine bcase_dec (fun _ => ?_) (fun _ => ?_) | refine bcase_not ?_ | refine bcase_intro (fun _ => ?_) (fun _ => ?_) | refine ⟨(by with_reducible rfl), ?_⟩ | refine ⟨congrArg vi ?_, ?_⟩ | refine ⟨congrArg vb ?_, ?_⟩ | refine ⟨rfl, ?_⟩ | refine ⟨(by kernel_rfl : drawOK _ = true), ?_⟩ | refine Or.inl ?_ | refine ⟨⟨congrArg (T.int _) ?_, rfl⟩, ?_⟩ | refine ⟨⟨congrArg T.bool ?_, rfl⟩, ?_⟩ | refine ⟨⟨rfl, Nat.le_of_ble_eq_true rfl⟩, ?_⟩ | refine ⟨⟨rfl, rfl⟩, ?_⟩ | refine ⟨⟨rfl, (by decide)⟩, ?_⟩ | refine ⟨⟨rfl, ?_⟩, ?_⟩ | refine ⟨Or.inr rfl, ?_⟩ | refine ⟨Or.inl rfl, ?_⟩ | refine ⟨⟨⟨rfl, rfl, rfl⟩, ?_⟩, ?_⟩ | refine ⟨_, _, rfl, row_get _ _ arith, rfl, ?_⟩ | refine ⟨Or.inr (by repeat (first | exact trivial | refine ⟨rfl, ?_⟩)), ?_⟩ | refine ⟨(?_ : _ = ([] : List (List T))), ?_⟩ | fail))
      all_goals first
        | exact hx.next hR2 hn1.2 hin hb hc5
        | (show n - (i + 1) < n - i; omega)
        | (show l.map DServer.e ++ [DServer.e (newServer i R b)] = _; rw [List.map_append]; rfl)
        | trace_state
    case' neg =>
      all_goals repeat' (first | (with_reducible rfl) | ((conv => whnf); first | refine bcase_F (decide_eq_false (show ¬ ((i : Int) < (n : Int)) from by omega)) ?_ | (refine Or.inr ⟨rfl, Or.inl ?_⟩; (conv => whnf); refine inAt_curK ?_ (e_lB c4 4 hc4 (by decide)) (by rfl) (by rfl) (by rfl); rintro ⟨A, c5⟩ ⟨hA, hc5⟩) | exact trivial | (with_reducible rfl) | exact (rfl : (0 : Int) = ((0 : Nat) : Int)) | exact w64_nat arith | refine bcase_T (by first | with_reducible rfl | decide) ?_ | refine bcase_F (by first | with_reducible rfl | decide) ?_ | refine bcase_dec (fun _ => ?_) (fun _ => ?_) | refine bcase_not ?_ | refine bcase_intro (fun _ => ?_) (fun _ => ?_) | refine ⟨(by with_reducible rfl), ?_⟩ | refine ⟨congrArg vi ?_, ?_⟩ | refine ⟨congrArg vb ?_, ?_⟩ | refine ⟨rfl, ?_⟩ | refine ⟨(by kernel_rfl : drawOK _ = true), ?_⟩ | refine Or.inl ?_ | refine ⟨⟨congrArg (T.int _) ?_, rfl⟩, ?_⟩ | refine ⟨⟨congrArg T.bool ?_, rfl⟩, ?_⟩ | refine ⟨⟨rfl, Nat.le_of_ble_eq_true rfl⟩, ?_⟩ | refine ⟨⟨rfl, rfl⟩, ?_⟩ | refine ⟨⟨rfl, (by decide)⟩, ?_⟩ | refine ⟨⟨rfl, ?_⟩, ?_⟩ | refine ⟨Or.inr rfl, ?_⟩ | refine ⟨Or.inl rfl, ?_⟩ | refine ⟨⟨⟨rfl, rfl, rfl⟩, ?_⟩, ?_⟩ | refine ⟨_, _, rfl, row_get _ _ arith, rfl, ?_⟩ | refine ⟨Or.inr (by repeat (first | exact trivial | refine ⟨rfl, ?_⟩)), ?_⟩ | refine ⟨(?_ : _ = ([] : List (List T))), ?_⟩ | fail))
      all_goals (conv => whnf)
      refine ⟨LS2, LS2.ok M R n, fun x => stR M R n x.c [(9, .c (.ref 1)), (11, .c (.ref 2)), (12, vi x.a)] [(1, .row true true 5 (x.sv.map DServer.e)), (2, .row true true 5 (x.rc.map DReceipt.e))] 3, fun x => x.a.toNat, ⟨A, l, [], c5⟩, LS2.start hx hin hA hc5, sub_at2 [(0, 0, 0), (1, 9, 0), (2, 11, 0)] rfl rfl rfl ?_ ?_, fun x hx2 => ?_⟩
      case' refine_3 =>
        obtain ⟨a, sv, rc, c6⟩ := x
        have ha1 : 0 ≤ a ∧ a ≤ 3 := hx2.a
        have hc6 : c6.ok := hx2.c
        by_cases hap : 0 < a
        case pos =>
          have ha3 : 1 ≤ a ∧ a ≤ 3 := by omega
          all_goals repeat' (first | (with_reducible rfl) | ((conv => whnf); first | refine bcase_T (decide_eq_true hap) ?_ | exact trivial | (with_reducible rfl) | exact (rfl : (0 : Int) = ((0 : Nat) : Int)) | exact w64_nat arith | refine bcase_T (by first | with_reducible rfl | decide) ?_ | refine bcase_F (by first | with_reducible rfl | decide) ?_ | refine bcase_dec (fun _ => ?_) (fun _ => ?_) | refine bcase_not ?_ | refine bcase_intro (fun _ => ?_) (fun _ => ?_) | refine ⟨(by with_reducible rfl), ?_⟩ | refine ⟨congrArg vi ?_, ?_⟩ | refine ⟨congrArg vb ?_, ?_⟩ | refine ⟨rfl, ?_⟩ | refine ⟨(by kernel_rfl : drawOK _ = true), ?_⟩ | refine Or.inl ?_ | refine ⟨⟨congrArg (T.int _) ?_, rfl⟩, ?_⟩ | refine ⟨⟨congrArg T.bool ?_, rfl⟩, ?_⟩ | refine ⟨⟨rfl, Nat.le_of_ble_eq_true rfl⟩, ?_⟩ | refine ⟨⟨rfl, rfl⟩, ?_⟩ | refine ⟨⟨rfl, (by decide)⟩, ?_⟩ | refine ⟨⟨rfl, ?_⟩, ?_⟩ | refine ⟨Or.inr rfl, ?_⟩ | refine ⟨Or.inl rfl, ?_⟩ | refine ⟨⟨⟨rfl, rfl, rfl⟩, ?_⟩, ?_⟩ | refine ⟨_, _, rfl, row_get _ _ arith, rfl, ?_⟩ | refine ⟨Or.inr (by repeat (first | exact trivial | refine ⟨rfl, ?_⟩)), ?_⟩ | refine ⟨(?_ : _ = ([] : List (List T))), ?_⟩ | fail))
          all_goals (conv => whnf)
          refine ⟨LS4, LS4.ok n, fun x => stR M R n x.c [(9, .c (.ref 1)), (11, .c (.ref 2)), (12, vi a), (13, .c (.ref 3)), (14, vi x.i)] [(1, .row true true 5 (sv.map DServer.e)), (2, .row true true 5 (rc.map DReceipt.e)), (3, .row true true 1 (x.ss.map eI))] 4, fun x => n - x.i, ⟨1, [], c6⟩, ⟨hc6, by show 1 ≤ n; omega, rfl, fun s hs => (by cases hs)⟩, sub_at2 [(0, 0, 0), (1, 9, 0), (2, 11, 0), (3, 13, 0)] rfl rfl rfl ?_ ?_, fun x hx4 => ?_⟩
          case' refine_3 =>
            obtain ⟨k, ss, c7⟩ := x
            have hk1 : k ≤ n := hx4.i
            have hs1 : ss.length + 1 = k := hx4.len
            have hc7 : c7.ok := hx4.c
            by_cases hkn : k < n
            case pos =>
              all_goals repeat' (first | (with_reducible rfl) | ((conv => whnf); first | refine bcase_T (decide_eq_true (show (k : Int) < (n : Int) from by omega)) ?_ | (refine Or.inr ⟨rfl, Or.inl ?_⟩; (conv => whnf); refine inAt_curK ?_ (e_lB c7 9999 hc7 (by decide)) (by rfl) (by rfl) (by rfl); rintro ⟨s, c8⟩ ⟨hs, hc8⟩) | refine ⟨true, fun _ => (by simp [isScal]), ⟨rfl, rfl⟩, appIb (l := ss) (by omega), ?_⟩ | refine ⟨⟨k + 1, ss ++ [s], c8⟩, ⟨?_, ?_⟩, sub_at2 [(0, 0, 0), (1, 9, 0), (2, 11, 0), (3, 13, 0)] rfl rfl rfl ?_ ?_⟩ | exact trivial | (with_reducible rfl) | exact (rfl : (0 : Int) = ((0 : Nat) : Int)) | exact w64_nat arith | refine bcase_T (by first | with_reducible rfl | decide) ?_ | refine bcase_F (by first | with_reducible rfl | decide) ?_ | refine bcase_dec (fun _ => ?_) (fun _ => ?_) | refine bcase_not ?_ | refine bcase_intro (fun _ => ?_) (fun _ => ?_) | refine ⟨(by with_reducible rfl), ?_⟩ | refine ⟨congrArg vi ?_, ?_⟩ | refine ⟨congrArg vb ?_, ?_⟩ | refine ⟨rfl, ?_⟩ | refine ⟨(by kernel_rfl : drawOK _ = true), ?_⟩ | refine Or.inl ?_ | refine ⟨⟨congrArg (T.int _) ?_, rfl⟩, ?_⟩ | refine ⟨⟨congrArg T.bool ?_, rfl⟩, ?_⟩ | refine ⟨⟨rfl, Nat.le_of_ble_eq_true rfl⟩, ?_⟩ | refine ⟨⟨rfl, rfl⟩, ?_⟩ | refine ⟨⟨rfl, (by decide)⟩, ?_⟩ | refine ⟨⟨rfl, ?_⟩, ?_⟩ | refine ⟨Or.inr rfl, ?_⟩ | refine ⟨Or.inl rfl, ?_⟩ | refine ⟨⟨⟨rfl, rfl, rfl⟩, ?_⟩, ?_⟩ | refine ⟨_, _, rfl, row_get _ _ arith, rfl, ?_⟩ | refine ⟨Or.inr (by repeat (first | exact trivial | refine ⟨rfl, ?_⟩)), ?_⟩ | refine ⟨(?_ : _ = ([] : List (List T))), ?_⟩ | fail))
              all_goals first
                | exact hx4.next hkn hs hc8
                | (show n - (k + 1) < n - k; omega)
                | (show ss.map eI ++ [eI s] = _; rw [List.map_append]; rfl)
                | trace_state
            case' neg =>
              all_goals repeat' (first | (with_reducible rfl) | ((conv => whnf); first | refine bcase_F (decide_eq_false (show ¬ ((k : Int) < (n : Int)) from by omega)) ?_ | (refine Or.inr ⟨rfl, Or.inl ?_⟩; (conv => whnf); refine inAt_curK ?_ (e_lB c7 R hc7 (by omega)) (by rfl) (by rfl) (by rfl); rintro ⟨ix, c8⟩ ⟨hix, hc8⟩) | (refine Or.inr ⟨rfl, Or.inl ?_⟩; (conv => whnf); refine inAt_curK ?_ (e_by24 c8 hc8) (by rfl) (by rfl) (by rfl); rintro ⟨bs, c9⟩ ⟨hbs, hc9⟩) | refine ⟨_, c_sMakeWrite R ix bs ss hokR (by show bs.length ≤ _; rw [hbs]; decide) (by omega), ?_⟩ | exact trivial | (with_reducible rfl) | exact (rfl : (0 : Int) = ((0 : Nat) : Int)) | exact w64_nat arith | refine bcase_T (by first | with_reducible rfl | decide) ?_ | refine bcase_F (by first | with_reducible rfl | decide) ?_ | refine bcase_dec (fun _ => ?_) (fun _ => ?_) | refine bcase_not ?_ | refine bcase_intro (fun _ => ?_) (fun _ => ?_) | refine ⟨(by with_reducible rfl), ?_⟩ | refine ⟨congrArg vi ?_, ?_⟩ | refine ⟨congrArg vb ?_, ?_⟩ | refine ⟨rfl, ?_⟩ | refine ⟨(by kernel_rfl : drawOK _ = true), ?_⟩ | refine Or.inl ?_ | refine ⟨⟨congrArg (T.int _) ?_, rfl⟩, ?_⟩ | refine ⟨⟨congrArg T.bool ?_, rfl⟩, ?_⟩ | refine ⟨⟨rfl, Nat.le_of_ble_eq_true rfl⟩, ?_⟩ | refine ⟨⟨rfl, rfl⟩, ?_⟩ | refine ⟨⟨rfl, (by decide)⟩, ?_⟩ | refine ⟨⟨rfl, ?_⟩, ?_⟩ | refine ⟨Or.inr rfl, ?_⟩ | refine ⟨Or.inl rfl, ?_⟩ | refine ⟨⟨⟨rfl, rfl, rfl⟩, ?_⟩, ?_⟩ | refine ⟨_, _, rfl, row_get _ _ arith, rfl, ?_⟩ | refine ⟨Or.inr (by repeat (first | exact trivial | refine ⟨rfl, ?_⟩)), ?_⟩ | refine ⟨(?_ : _ = ([] : List (List T))), ?_⟩ | fail))
              all_goals (conv => whnf)
              obtain ⟨hw1, hw2⟩ := makeW_get (R := R) (i := ix) (c := bs) (ss := ss) hR2 hix hbs hn1 (by omega) hx4.s
              generalize makeW R ix bs ss = w at hw1 hw2 ⊢
              refine ⟨LS6, LS6.ok M R n a, fun x => stR M R n c9 [(9, .c (.ref 1)), (11, .c (.ref 2)), (12, vi a), (15, .c (.ref 3)), (16, vi x.i)] [(1, .row true true 5 (x.sv.map DServer.e)), (2, .row true true 5 (x.rc.map DReceipt.e)), (3, .row true true 1 (w.map DDatabase.e))] 4, fun x => n - x.i, ⟨0, sv, rc⟩, LS6.start hx2, sub_at2 [(0, 0, 0), (1, 9, 0), (2, 11, 0), (3, 15, 0)] rfl rfl rfl ?_ ?_, fun x hx6 => ?_⟩
              case' refine_3 =>
                obtain ⟨j, sv', rc'⟩ := x
                have hj1 : j ≤ n := hx6.i
                have hsl : sv'.length = n := hx6.r.len
                have hrl : (rc'.length : Int) + 3 * a ≤ 9 + (j : Int) := hx6.len
                by_cases hjn : j < n
                case pos =>
                  have hjs : j < sv'.length := by omega
                  have hjw : j < w.length := by omega
                  have hsj := hx6.srv hjs
                  have hbg := hsj.big hR2 (by omega)
                  have hfw := hw2 j hjw
                  have hput := hsj.put hR2 ha3 (by omega) hfw.1 hfw.2
                  all_goals repeat' (first | (with_reducible rfl) | ((conv => whnf); first | refine bcase_T (decide_eq_true (show (j : Int) < (n : Int) from by omega)) ?_ | refine bcase_T hput.1 ?_ | refine ⟨_, c_sReceiveShare sv'[j] a w[j] (by omega) hbg.1.1 (full_big hfw.1 (by omega)), ?_⟩ | refine ⟨_, c_sServerKey M j, ?_⟩ | refine ⟨_, c_sMakeReceipt (servKey M j) j a 0 w[j] (full_sz hfw.1 (by omega)), ?_⟩ | refine ⟨j, rfl, (by show j < (List.map _ _).length; rw [List.length_map]; assumption), ?_⟩ | refine ⟨_, row_get DServer.e sv' hjs, ?_⟩ | refine ⟨_, row_get DDatabase.e w hjw, ?_⟩ | refine ⟨true, fun _ => (by simp [isScal]), ⟨rfl, rfl⟩, appRc (l := rc') (by omega), ?_⟩ | refine ⟨⟨j + 1, sv'.set j (rcv sv'[j] a w[j]), rc' ++ [mkRcpt (servKey M j) j a 0 w[j]]⟩, ⟨?_, ?_⟩, sub_at2 [(0, 0, 0), (1, 9, 0), (2, 11, 0), (3, 15, 0)] rfl rfl rfl ?_ ?_⟩ | exact trivial | (with_reducible rfl) | exact (rfl : (0 : Int) = ((0 : Nat) : Int)) | exact w64_nat arith | refine bcase_T (by first | with_reducible rfl | decide) ?_ | refine bcase_F (by first | with_reducible rfl | decide) ?_ | refine bcase_dec (fun _ => ?_) (fun _ => ?_) | refine bcase_not ?_ | refine bcase_intro (fun _ => ?_) (fun _ => ?_) | refine ⟨(by with_reducible rfl), ?_⟩ | refine ⟨congrArg vi ?_, ?_⟩ | refine ⟨congrArg vb ?_, ?_⟩ | refine ⟨rfl, ?_⟩ | refine ⟨(by kernel_rfl : drawOK _ = true), ?_⟩ | refine Or.inl ?_ | refine ⟨⟨congrArg (T.int _) ?_, rfl⟩, ?_⟩ | refine ⟨⟨congrArg T.bool ?_, rfl⟩, ?_⟩ | refine ⟨⟨rfl, Nat.le_of_ble_eq_true rfl⟩, ?_⟩ | refine ⟨⟨rfl, rfl⟩, ?_⟩ | refine ⟨⟨rfl, (by decide)⟩, ?_⟩ | refine ⟨⟨rfl, ?_⟩, ?_⟩ | refine ⟨Or.inr rfl, ?_⟩ | refine ⟨Or.inl rfl, ?_⟩ | refine ⟨⟨⟨rfl, rfl, rfl⟩, ?_⟩, ?_⟩ | refine ⟨_, _, rfl, row_get _ _ arith, rfl, ?_⟩ | refine ⟨Or.inr (by repeat (first | exact trivial | refine ⟨rfl, ?_⟩)), ?_⟩ | refine ⟨(?_ : _ = ([] : List (List T))), ?_⟩ | fail))
                  all_goals first
                    | exact hx6.next hR2 ha3 hn1.2 hjn hjs hfw.1 hfw.2
                    | (show n - (j + 1) < n - j; omega)
                    | (show rc'.map DReceipt.e ++ [DReceipt.e (mkRcpt (servKey M j) j a 0 w[j])] = _; rw [List.map_append]; rfl)
                    | (show (sv'.map DServer.e).set j (DServer.e (rcv sv'[j] a w[j])) = _; rw [List.map_set])
                    | trace_state
                case' neg =>
                  all_goals repeat' (first | (with_reducible rfl) | ((conv => whnf); first | refine bcase_F (decide_eq_false (show ¬ ((j : Int) < (n : Int)) from by omega)) ?_ | refine ⟨⟨IntKind.i64.wrap (a - 1), sv', rc', c9⟩, ⟨?_, ?_⟩, sub_at2 [(0, 0, 0), (1, 9, 0), (2, 11, 0)] rfl rfl rfl ?_ ?_⟩ | exact trivial | (with_reducible rfl) | exact (rfl : (0 : Int) = ((0 : Nat) : Int)) | exact w64_nat arith | refine bcase_T (by first | with_reducible rfl | decide) ?_ | refine bcase_F (by first | with_reducible rfl | decide) ?_ | refine bcase_dec (fun _ => ?_) (fun _ => ?_) | refine bcase_not ?_ | refine bcase_intro (fun _ => ?_) (fun _ => ?_) | refine ⟨(by with_reducible rfl), ?_⟩ | refine ⟨congrArg vi ?_, ?_⟩ | refine ⟨congrArg vb ?_, ?_⟩ | refine ⟨rfl, ?_⟩ | refine ⟨(by kernel_rfl : drawOK _ = true), ?_⟩ | refine Or.inl ?_ | refine ⟨⟨congrArg (T.int _) ?_, rfl⟩, ?_⟩ | refine ⟨⟨congrArg T.bool ?_, rfl⟩, ?_⟩ | refine ⟨⟨rfl, Nat.le_of_ble_eq_true rfl⟩, ?_⟩ | refine ⟨⟨rfl, rfl⟩, ?_⟩ | refine ⟨⟨rfl, (by decide)⟩, ?_⟩ | refine ⟨⟨rfl, ?_⟩, ?_⟩ | refine ⟨Or.inr rfl, ?_⟩ | refine ⟨Or.inl rfl, ?_⟩ | refine ⟨⟨⟨rfl, rfl, rfl⟩, ?_⟩, ?_⟩ | refine ⟨_, _, rfl, row_get _ _ arith, rfl, ?_⟩ | refine ⟨Or.inr (by repeat (first | exact trivial | refine ⟨rfl, ?_⟩)), ?_⟩ | refine ⟨(?_ : _ = ([] : List (List T))), ?_⟩ | fail))
                  all_goals first
                    | exact hx6.next2 hn1.2 hjn ha3 hc9
                    | exact wrap_lt ha3
                    | trace_state
              all_goals repeat' (first | (with_reducible rfl) | ((conv => whnf); first | exact trivial | (with_reducible rfl) | exact (rfl : (0 : Int) = ((0 : Nat) : Int)) | exact w64_nat arith | refine bcase_T (by first | with_reducible rfl | decide) ?_ | refine bcase_F (by first | with_reducible rfl | decide) ?_ | refine bcase_dec (fun _ => ?_) (fun _ => ?_) | refine bcase_not ?_ | refine bcase_intro (fun _ => ?_) (fun _ => ?_) | refine ⟨(by with_reducible rfl), ?_⟩ | refine ⟨congrArg vi ?_, ?_⟩ | refine ⟨congrArg vb ?_, ?_⟩ | refine ⟨rfl, ?_⟩ | refine ⟨(by kernel_rfl : drawOK _ = true), ?_⟩ | refine Or.inl ?_ | refine ⟨⟨congrArg (T.int _) ?_, rfl⟩, ?_⟩ | refine ⟨⟨congrArg T.bool ?_, rfl⟩, ?_⟩ | refine ⟨⟨rfl, Nat.le_of_ble_eq_true rfl⟩, ?_⟩ | refine ⟨⟨rfl, rfl⟩, ?_⟩ | refine ⟨⟨rfl, (by decide)⟩, ?_⟩ | refine ⟨⟨rfl, ?_⟩, ?_⟩ | refine ⟨Or.inr rfl, ?_⟩ | refine ⟨Or.inl rfl, ?_⟩ | refine ⟨⟨⟨rfl, rfl, rfl⟩, ?_⟩, ?_⟩ | refine ⟨_, _, rfl, row_get _ _ arith, rfl, ?_⟩ | refine ⟨Or.inr (by repeat (first | exact trivial | refine ⟨rfl, ?_⟩)), ?_⟩ | refine ⟨(?_ : _ = ([] : List (List T))), ?_⟩ | fail))
              all_goals first | rfl | trace_state
          all_goals repeat' (first | (with_reducible rfl) | ((conv => whnf); first | exact trivial | (with_reducible rfl) | exact (rfl : (0 : Int) = ((0 : Nat) : Int)) | exact w64_nat arith | refine bcase_T (by first | with_reducible rfl | decide) ?_ | refine bcase_F (by first | with_reducible rfl | decide) ?_ | refine bcase_dec (fun _ => ?_) (fun _ => ?_) | refine bcase_not ?_ | refine bcase_intro (fun _ => ?_) (fun _ => ?_) | refine ⟨(by with_reducible rfl), ?_⟩ | refine ⟨congrArg vi ?_, ?_⟩ | refine ⟨congrArg vb ?_, ?_⟩ | refine ⟨rfl, ?_⟩ | refine ⟨(by kernel_rfl : drawOK _ = true), ?_⟩ | refine Or.inl ?_ | refine ⟨⟨congrArg (T.int _) ?_, rfl⟩, ?_⟩ | refine ⟨⟨congrArg T.bool ?_, rfl⟩, ?_⟩ | refine ⟨⟨rfl, Nat.le_of_ble_eq_true rfl⟩, ?_⟩ | refine ⟨⟨rfl, rfl⟩, ?_⟩ | refine ⟨⟨rfl, (by decide)⟩, ?_⟩ | refine ⟨⟨rfl, ?_⟩, ?_⟩ | refine ⟨Or.inr rfl, ?_⟩ | refine ⟨Or.inl rfl, ?_⟩ | refine ⟨⟨⟨rfl, rfl, rfl⟩, ?_⟩, ?_⟩ | refine ⟨_, _, rfl, row_get _ _ arith, rfl, ?_⟩ | refine ⟨Or.inr (by repeat (first | exact trivial | refine ⟨rfl, ?_⟩)), ?_⟩ | refine ⟨(?_ : _ = ([] : List (List T))), ?_⟩ | fail))
          all_goals first | rfl | trace_state
        case' neg =>
          all_goals repeat' (first | (with_reducible rfl) | ((conv => whnf); first | refine bcase_F (decide_eq_false hap) ?_ | exact trivial | (with_reducible rfl) | exact (rfl : (0 : Int) = ((0 : Nat) : Int)) | exact w64_nat arith | refine bcase_T (by first | with_reducible rfl | decide) ?_ | refine bcase_F (by first | with_reducible rfl | decide) ?_ | refine bcase_dec (fun _ => ?_) (fun _ => ?_) | refine bcase_not ?_ | refine bcase_intro (fun _ => ?_) (fun _ => ?_) | refine ⟨(by with_reducible rfl), ?_⟩ | refine ⟨congrArg vi ?_, ?_⟩ | refine ⟨congrArg vb ?_, ?_⟩ | refine ⟨rfl, ?_⟩ | refine ⟨(by kernel_rfl : drawOK _ = true), ?_⟩ | refine Or.inl ?_ | refine ⟨⟨congrArg (T.int _) ?_, rfl⟩, ?_⟩ | refine ⟨⟨congrArg T.bool ?_, rfl⟩, ?_⟩ | refine ⟨⟨rfl, Nat.le_of_ble_eq_true rfl⟩, ?_⟩ | refine ⟨⟨rfl, rfl⟩, ?_⟩ | refine ⟨⟨rfl, (by decide)⟩, ?_⟩ | refine ⟨⟨rfl, ?_⟩, ?_⟩ | refine ⟨Or.inr rfl, ?_⟩ | refine ⟨Or.inl rfl, ?_⟩ | refine ⟨⟨⟨rfl, rfl, rfl⟩, ?_⟩, ?_⟩ | refine ⟨_, _, rfl, row_get _ _ arith, rfl, ?_⟩ | refine ⟨Or.inr (by repeat (first | exact trivial | refine ⟨rfl, ?_⟩)), ?_⟩ | refine ⟨(?_ : _ = ([] : List (List T))), ?_⟩ | fail))
          all_goals (conv => whnf)
          have ha0 : a = 0 := by omega
          subst ha0
          have hr2 : RnI M R n (fun _ => 0) sv rc := hx2.r
          have hsl : sv.length = n := hr2.len
          have hrl : (rc.length : Int) + 3 * 0 ≤ 9 := hx2.len
          refine ⟨Nat, fun i => i ≤ n, fun i => stR M R n c6 [(9, .c (.ref 1)), (11, .c (.ref 2)), (19, .c (.ref 3)), (20, vi i)] [(1, .row true true 5 (sv.map DServer.e)), (2, .row true true 5 (rc.map DReceipt.e)), (3, .row true true 1 (((sv.take i).map pubS).map DDatabase.e))] 4, fun i => n - i, 0, Nat.zero_le _, sub_at2 [(0, 0, 0), (1, 9, 0), (2, 11, 0), (3, 19, 0)] rfl rfl rfl ?_ ?_, fun i (hi : i ≤ n) => ?_⟩
          case' refine_3 =>
            by_cases hin : i < n
            case pos =>
              have his : i < sv.length := by omega
              have hbg := (hr2.srv i his).big hR2 (by omega)
              all_goals repeat' (first | (with_reducible rfl) | ((conv => whnf); first | refine bcase_T (decide_eq_true (show (i : Int) < (n : Int) from by omega)) ?_ | refine ⟨_, c_sPublishShare sv[i] hbg.1.1, ?_⟩ | refine ⟨i, rfl, (by show i < (List.map _ _).length; rw [List.length_map]; assumption), ?_⟩ | refine ⟨_, row_get DServer.e sv his, ?_⟩ | refine ⟨appDb (l := (sv.take i).map pubS) (by rw [List.length_map, List.length_take]; omega), ?_⟩ | refine ⟨i + 1, ⟨?_, ?_⟩, sub_at2 [(0, 0, 0), (1, 9, 0), (2, 11, 0), (3, 19, 0)] rfl rfl rfl ?_ ?_⟩ | exact trivial | (with_reducible rfl) | exact (rfl : (0 : Int) = ((0 : Nat) : Int)) | exact w64_nat arith | refine bcase_T (by first | with_reducible rfl | decide) ?_ | refine bcase_F (by first | with_reducible rfl | decide) ?_ | refine bcase_dec (fun _ => ?_) (fun _ => ?_) | refine bcase_not ?_ | refine bcase_intro (fun _ => ?_) (fun _ => ?_) | refine ⟨(by with_reducible rfl), ?_⟩ | refine ⟨congrArg vi ?_, ?_⟩ | refine ⟨congrArg vb ?_, ?_⟩ | refine ⟨rfl, ?_⟩ | refine ⟨(by kernel_rfl : drawOK _ = true), ?_⟩ | refine Or.inl ?_ | refine ⟨⟨congrArg (T.int _) ?_, rfl⟩, ?_⟩ | refine ⟨⟨congrArg T.bool ?_, rfl⟩, ?_⟩ | refine ⟨⟨rfl, Nat.le_of_ble_eq_true rfl⟩, ?_⟩ | refine ⟨⟨rfl, rfl⟩, ?_⟩ | refine ⟨⟨rfl, (by decide)⟩, ?_⟩ | refine ⟨⟨rfl, ?_⟩, ?_⟩ | refine ⟨Or.inr rfl, ?_⟩ | refine ⟨Or.inl rfl, ?_⟩ | refine ⟨⟨⟨rfl, rfl, rfl⟩, ?_⟩, ?_⟩ | refine ⟨_, _, rfl, row_get _ _ arith, rfl, ?_⟩ | refine ⟨Or.inr (by repeat (first | exact trivial | refine ⟨rfl, ?_⟩)), ?_⟩ | refine ⟨(?_ : _ = ([] : List (List T))), ?_⟩ | fail))
              all_goals first
                | (show i + 1 ≤ n; omega)
                | (show n - (i + 1) < n - i; omega)
                | (rw [pubs_take sv his]; rfl)
                | trace_state
            case' neg =>
              all_goals repeat' (first | (with_reducible rfl) | ((conv => whnf); first | refine bcase_F (decide_eq_false (show ¬ ((i : Int) < (n : Int)) from by omega)) ?_ | refine exQr ⟨M, R, n, sv, rc, c6⟩ ?_ ⟨hM, hR1, hn1, hr2, by show rc.length ≤ 9; omega, hc6⟩ | exact trivial | (with_reducible rfl) | exact (rfl : (0 : Int) = ((0 : Nat) : Int)) | exact w64_nat arith | refine bcase_T (by first | with_reducible rfl | decide) ?_ | refine bcase_F (by first | with_reducible rfl | decide) ?_ | refine bcase_dec (fun _ => ?_) (fun _ => ?_) | refine bcase_not ?_ | refine bcase_intro (fun _ => ?_) (fun _ => ?_) | refine ⟨(by with_reducible rfl), ?_⟩ | refine ⟨congrArg vi ?_, ?_⟩ | refine ⟨congrArg vb ?_, ?_⟩ | refine ⟨rfl, ?_⟩ | refine ⟨(by kernel_rfl : drawOK _ = true), ?_⟩ | refine Or.inl ?_ | refine ⟨⟨congrArg (T.int _) ?_, rfl⟩, ?_⟩ | refine ⟨⟨congrArg T.bool ?_, rfl⟩, ?_⟩ | refine ⟨⟨rfl, Nat.le_of_ble_eq_true rfl⟩, ?_⟩ | refine ⟨⟨rfl, rfl⟩, ?_⟩ | refine ⟨⟨rfl, (by decide)⟩, ?_⟩ | refine ⟨⟨rfl, ?_⟩, ?_⟩ | refine ⟨Or.inr rfl, ?_⟩ | refine ⟨Or.inl rfl, ?_⟩ | refine ⟨⟨⟨rfl, rfl, rfl⟩, ?_⟩, ?_⟩ | refine ⟨_, _, rfl, row_get _ _ arith, rfl, ?_⟩ | refine ⟨Or.inr (by repeat (first | exact trivial | refine ⟨rfl, ?_⟩)), ?_⟩ | refine ⟨(?_ : _ = ([] : List (List T))), ?_⟩ | fail))
              all_goals first
                | rfl
                | (show List.map DDatabase.e (List.map pubS (List.take i sv)) = List.map DDatabase.e (List.map pubS sv); rw [List.take_of_length_le (by omega)]; done)
                | trace_state
          all_goals repeat' (first | (with_reducible rfl) | ((conv => whnf); first | exact trivial | (with_reducible rfl) | exact (rfl : (0 : Int) = ((0 : Nat) : Int)) | exact w64_nat arith | refine bcase_T (by first | with_reducible rfl | decide) ?_ | refine bcase_F (by first | with_reducible rfl | decide) ?_ | refine bcase_dec (fun _ => ?_) (fun _ => ?_) | refine bcase_not ?_ | refine bcase_intro (fun _ => ?_) (fun _ => ?_) | refine ⟨(by with_reducible rfl), ?_⟩ | refine ⟨congrArg vi ?_, ?_⟩ | refine ⟨congrArg vb ?_, ?_⟩ | refine ⟨rfl, ?_⟩ | refine ⟨(by kernel_rfl : drawOK _ = true), ?_⟩ | refine Or.inl ?_ | refine ⟨⟨congrArg (T.int _) ?_, rfl⟩, ?_⟩ | refine ⟨⟨congrArg T.bool ?_, rfl⟩, ?_⟩ | refine ⟨⟨rfl, Nat.le_of_ble_eq_true rfl⟩, ?_⟩ | refine ⟨⟨rfl, rfl⟩, ?_⟩ | refine ⟨⟨rfl, (by decide)⟩, ?_⟩ | refine ⟨⟨rfl, ?_⟩, ?_⟩ | refine ⟨Or.inr rfl, ?_⟩ | refine ⟨Or.inl rfl, ?_⟩ | refine ⟨⟨⟨rfl, rfl, rfl⟩, ?_⟩, ?_⟩ | refine ⟨_, _, rfl, row_get _ _ arith, rfl, ?_⟩ | refine ⟨Or.inr (by repeat (first | exact trivial | refine ⟨rfl, ?_⟩)), ?_⟩ | refine ⟨(?_ : _ = ([] : List (List T))), ?_⟩ | fail))
          all_goals first | rfl | trace_state
  all_goals repeat' (first | (with_reducible rfl) | ((conv => whnf); first | exact trivial | (with_reducible rfl) | exact (rfl : (0 : Int) = ((0 : Nat) : Int)) | exact w64_nat arith | refine bcase_T (by first | with_reducible rfl | decide) ?_ | refine bcase_F (by first | with_reducible rfl | decide) ?_ | refine bcase_dec (fun _ => ?_) (fun _ => ?_) | refine bcase_not ?_ | refine bcase_intro (fun _ => ?_) (fun _ => ?_) | refine ⟨(by with_reducible rfl), ?_⟩ | refine ⟨congrArg vi ?_, ?_⟩ | refine ⟨congrArg vb ?_, ?_⟩ | refine ⟨rfl, ?_⟩ | refine ⟨(by kernel_rfl : drawOK _ = true), ?_⟩ | refine Or.inl ?_ | refine ⟨⟨congrArg (T.int _) ?_, rfl⟩, ?_⟩ | refine ⟨⟨congrArg T.bool ?_, rfl⟩, ?_⟩ | refine ⟨⟨rfl, Nat.le_of_ble_eq_true rfl⟩, ?_⟩ | refine ⟨⟨rfl, rfl⟩, ?_⟩ | refine ⟨⟨rfl, (by decide)⟩, ?_⟩ | refine ⟨⟨rfl, ?_⟩, ?_⟩ | refine ⟨Or.inr rfl, ?_⟩ | refine ⟨Or.inl rfl, ?_⟩ | refine ⟨⟨⟨rfl, rfl, rfl⟩, ?_⟩, ?_⟩ | refine ⟨_, _, rfl, row_get _ _ arith, rfl, ?_⟩ | refine ⟨Or.inr (by repeat (first | exact trivial | refine ⟨rfl, ?_⟩)), ?_⟩ | refine ⟨(?_ : _ = ([] : List (List T))), ?_⟩ | fail))
  all_goals first
    | exact eR
    | exact en
    | exact hM.symm
    | rfl
    | trace_state
end Go.Proofs.Ytpipfobdfcnghaa
