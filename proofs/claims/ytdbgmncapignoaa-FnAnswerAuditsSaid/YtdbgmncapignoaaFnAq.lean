/-
  Contract: what a code draws for the audit of signed answers, known by its size.
  Conditions: none.
-/
import Derived.Test.YtdbgmncapignoaaFnDm
import Derived.Test.YtdbgmncapignoaaFnTs
import Derived.Test.YtdbgmncapignoaaFnAs
import Derived.Test.YtdbgmncapignoaaFnNw
namespace Go.Proofs.Ytdbgmncapignoaa
set_option maxHeartbeats 4000000
set_option maxRecDepth 20000
open Go.Vm Go.RowKit
attribute [local irreducible] FnAt MutAt InAt JAt CurAt FnE CurE RegAt
attribute [local irreducible] beN cuI cuN beV byV IntKind.wrap nwC
theorem nwC_okA {b : List UInt8} (h : b.length ≤ 1048576) : (nwC b).ok := by unfold nwC; exact ⟨h, Nat.zero_le _⟩
theorem exQa {X : Type} {Q R : X → Prop} (x : X) (h : R x) (hq : Q x) : ∃ x, Q x ∧ R x := ⟨x, hq, h⟩
def upMac (a : DSignedAnswer) (v : Int) : DSignedAnswer := ⟨a.Server, a.Round, a.Selection, a.Data, v⟩
theorem ansQ_le {d : DDatabase} {v : List Int} (h : ∀ x ∈ d.Rows, x.length ≤ 24) : (ansQ d v).length ≤ 24 := by
  unfold ansQ
  split
  · rw [xorB_len, zero24_len]
    have := selX_len (v := v) h d.Rows.length
    omega
  · simp
theorem ansAs_le (s : DServer) (k r : Int) (d : DDatabase) (v : List Int) : (ansAs s k r d v).Selection.length ≤ v.length ∧ (ansAs s k r d v).Data.length ≤ (ansQ d v).length := by
  have hf : ∀ l : List UInt8, (flip0 l).length = l.length := fun l => by cases l <;> rfl
  unfold ansAs signAns
  split <;> split <;> simp [lieAns, withMac, hf]
attribute [local irreducible] ansQ ansAs randSel
def nxS (c : Cu) : DServer := newServer (beV c 4) 1 (([0, 0, 3] : List Int)[(beV (beN c 4) (([0, 0, 3] : List Int).length : Int)).toNat]?.getD 0)
def nxA (m : Int) (d : DDatabase) (c : Cu) : DSignedAnswer := ansAs (nxS c) (servKey m (nxS c).Id) 2 d (randSel (beV (beN (beN c 4) (([0, 0, 3] : List Int).length : Int)) 999) ((d.Rows.map (eL eU)).length : Int))
def smallA (a : DSignedAnswer) : Prop := a.Selection.length ≤ 64 ∧ a.Data.length ≤ 24
structure LA where
  n : Int
  l : List DSignedAnswer
  c : Cu
structure LAok (s : LA) : Prop where
  ok : s.c.ok
  n : 0 ≤ s.n ∧ s.n ≤ 6
  len : s.l.length + s.n.toNat ≤ 6
  l : ∀ a ∈ s.l, smallA a
def stA (m : Int) (d : DDatabase) (s : LA) : St := ⟨[(3, .ptr 0 0), (5, .ptr 1 0), (6, vi m), (7, .ptr 2 0), (8, .c (.ref 4)), (9, vi s.n)], [(0, .box [.nil]), (1, .box [.anc (L eU s.c.b), .t (I s.c.i), .t (I s.c.h)]), (2, .box [.ref 3]), (3, .row true true 1 (d.Rows.map (eL eU))), (4, .row true true 5 (s.l.map DSignedAnswer.e))], 5⟩
theorem LAok.start {c c' : Cu} (h : c'.ok) : LAok ⟨beV c 6, [], c'⟩ := by
  have h2 := beV_lt (c := c) (n := 6) (by omega)
  exact ⟨h, by show 0 ≤ beV c 6 ∧ beV c 6 ≤ 6; omega, by show 0 + (beV c 6).toNat ≤ 6; omega, fun a ha => by cases ha⟩
theorem LAok.next {s : LA} (h : LAok s) (hn : 0 < s.n) {a : DSignedAnswer} {c : Cu} (ha : smallA a) (hc : c.ok) : LAok ⟨IntKind.i64.wrap (s.n - 1), s.l ++ [a], c⟩ ∧ (IntKind.i64.wrap (s.n - 1)).toNat < s.n.toNat := by
  have h1 := h.n
  have h2 := h.len
  rw [w64_ok (by omega) (by omega)]
  refine ⟨⟨hc, by show 0 ≤ s.n - 1 ∧ s.n - 1 ≤ 6; omega, ?_, fun x hx => ?_⟩, by omega⟩
  · show (s.l ++ [a]).length + (s.n - 1).toNat ≤ 6
    simp only [List.length_append, List.length_cons, List.length_nil]; omega
  · rcases List.mem_append.1 hx with hx | hx
    · exact h.l x hx
    · rw [List.mem_singleton.1 hx]; exact ha
theorem app1_bnd {rows : List (List T)} (h : rows.length ≤ 6) : (rows.length + 1) * 72 ≤ 140737488355328 ∧ rows.length + 1 ≤ 140737488355328 := by omega
theorem sel_in {d : DDatabase} (h : d.Rows.length ≤ 4) : inR ((d.Rows.map (eL eU)).length : Int) 0 64 = true := by
  rw [List.length_map, inR_iff]; omega
theorem e_DrawAuditAnswers (b : List UInt8) (h : b.length ≤ 1048576) : FnE Try.prog 26 [.one (L eU b)] (Int × DDatabase × List DSignedAnswer) (fun x => [.one (.s (I x.1)), .agg (DDatabase.r x.2.1), .one (.l 5 (x.2.2.map DSignedAnswer.e))]) (fun x => bigB x.2.1.Rows ∧ bigAs x.2.2 ∧ x.2.2.length ≤ 6) := by
  have h0 := nwC_okA h
  have hb4 := beV_lt (c := beN (nwC b) 99) (n := 4) (by decide)
  have hr : IntKind.i64.wrap (1 + beV (beN (nwC b) 99) 4) = (((1 + beV (beN (nwC b) 99) 4).toNat : Nat) : Int) := by rw [w64_ok (by omega) (by omega)]; omega
  have hd := c_l8DatabaseI (beN (beN (nwC b) 99) 4) _ (1 + beV (beN (nwC b) 99) 4).toNat (beN_ok (beN_ok h0)) hr (by omega)
  have hd1 := dbR_len (beN (beN (nwC b) 99) 4) (1 + beV (beN (nwC b) 99) 4).toNat
  have hd2 : ∀ x ∈ dbR (beN (beN (nwC b) 99) 4) (1 + beV (beN (nwC b) 99) 4).toNat, x.length ≤ 24 := by
    intro x hx
    simp only [dbR, List.mem_map] at hx
    obtain ⟨j, _, rfl⟩ := hx
    rw [byV_len]; omega
  generalize dbR (beN (beN (nwC b) 99) 4) (1 + beV (beN (nwC b) 99) 4).toNat = rows at *
  have hrl : (DDatabase.mk rows).Rows.length ≤ 4 := by show rows.length ≤ 4; omega
  have hdb : bigB (DDatabase.mk rows).Rows := ⟨by show rows.length ≤ _; omega, fun x hx => by have := hd2 x hx; omega⟩
  refine fnE_of Try.func26 rfl (by kernel_rfl) rfl ?_
  all_goals repeat' (first
    | (with_reducible rfl)
    | (conv => whnf
       first
         | (refine Or.inr ⟨rfl, Or.inl ?_⟩; (conv => whnf); refine inAt_new (c_l1New b h) ?_)
         | (show Cu.ok _; repeat (first | assumption | refine beN_ok ?_ | refine cuI_ok ?_ _))
         | (refine Or.inr ⟨rfl, Or.inl ?_⟩; (conv => whnf); refine inAt_cur (hd) (by rfl) (by rfl) (by rfl) ?_)
         | (refine Or.inr ⟨rfl, Or.inl ?_⟩; (conv => whnf); refine inAt_cur (c_l1Below ?_ ?_ ?_) (by rfl) (by rfl) (by rfl) ?_)
         | (refine Or.inr ⟨rfl, Or.inl ?_⟩; (conv => whnf); refine inAt_cur (c_l1Once ?_ ?_ ?_) (by rfl) (by rfl) (by rfl) ?_)
         | (refine Or.inr ⟨rfl, Or.inl ?_⟩; (conv => whnf); refine inAt_cur (c_l1BytesG ?_ ?_ ?_ ?_) (by rfl) (by rfl) (by rfl) ?_)
         | refine be_small (by decide) (by decide)
         | exact trivial
         | (with_reducible rfl)
         | exact (rfl : (0 : Int) = ((0 : Nat) : Int))
         | exact w64_nat arith
         | refine bcase_T (by first | with_reducible rfl | decide) ?_
         | refine bcase_F (by first | with_reducible rfl | decide) ?_
         | refine bcase_dec (fun _ => ?_) (fun _ => ?_)
         | refine bcase_not ?_
         | refine bcase_intro (fun _ => ?_) (fun _ => ?_)
         | refine ⟨(by with_reducible rfl), ?_⟩
         | refine ⟨congrArg vi ?_, ?_⟩
         | refine ⟨congrArg vb ?_, ?_⟩
         | refine ⟨rfl, ?_⟩
         | refine ⟨(by kernel_rfl : drawOK _ = true), ?_⟩
         | refine Or.inl ?_
         | refine ⟨⟨congrArg (T.int _) ?_, rfl⟩, ?_⟩
         | refine ⟨⟨congrArg T.bool ?_, rfl⟩, ?_⟩
         | refine ⟨⟨rfl, Nat.le_of_ble_eq_true rfl⟩, ?_⟩
         | refine ⟨⟨rfl, rfl⟩, ?_⟩
         | refine ⟨⟨rfl, (by decide)⟩, ?_⟩
         | refine ⟨⟨rfl, ?_⟩, ?_⟩
         | refine ⟨Or.inr rfl, ?_⟩
         | refine ⟨Or.inl rfl, ?_⟩
         | refine ⟨⟨⟨rfl, rfl, rfl⟩, ?_⟩, ?_⟩
         | refine ⟨_, _, rfl, row_get _ _ arith, rfl, ?_⟩
         | refine ⟨Or.inr (by repeat (first | exact trivial | refine ⟨rfl, ?_⟩)), ?_⟩
         | refine ⟨(?_ : _ = ([] : List (List T))), ?_⟩
         | fail))
  all_goals (conv => whnf)
  all_goals refine ⟨LA, LAok, stA (IntKind.i64.wrap (1 + beV (nwC b) 99)) ⟨rows⟩, fun s => s.n.toNat, ⟨?_, [], ?_⟩, ?_, sub_at2 [(0, 3, 0), (1, 5, 0), (2, 7, 0), (3, 7, 1), (4, 8, 0)] rfl rfl rfl ?_ ?_, fun s hs => ?_⟩
  all_goals repeat' (first
    | (with_reducible rfl)
    | (conv => whnf
       first
         | refine ⟨Or.inl (by rfl), ?_⟩
         | (have hk := hs.ok; (show Cu.ok _; repeat (first | assumption | refine beN_ok ?_ | refine cuI_ok ?_ _)))
         | (refine Or.inr ⟨rfl, Or.inl ?_⟩; (conv => whnf); refine inAt_cur (c_l1Int ?_ [0, 0, 3] ?_ (by decide) (by decide)) (by rfl) (by rfl) (by rfl) ?_)
         | refine ⟨_, c_sNewServer _ _ _, ?_⟩
         | (have hq : ¬ (0 < s.n) := (by assumption); refine Or.inl ?_)
         | refine Or.inr ⟨(by kernel_rfl), 1, ⟨_, rfl⟩, ?_⟩
         | (refine Or.inl ?_; (conv => whnf); first | refine cur_ex (c_l1Below ?_ ?_ ?_) (by rfl) (by rfl) ?_ | refine cur_ex (c_l1BytesG ?_ ?_ ?_ ?_) (by rfl) (by rfl) ?_)
         | (refine Or.inr (?_ : hidO _ _ _ _ _ _ _); (conv => whnf); refine Or.inl ?_; (conv => whnf); refine ⟨_, c_sServerKey _ _, ?_⟩)
         | (refine Or.inr (?_ : hidO _ _ _ _ _ _ _); (conv => whnf); refine Or.inl ?_; (conv => whnf); refine ⟨_, c_sRandomSelection _ _ (sel_in hrl), ?_⟩)
         | (refine Or.inr (?_ : hidO _ _ _ _ _ _ _); (conv => whnf); refine Or.inl ?_; (conv => whnf); refine ⟨_, c_sAnswerAs _ _ _ ⟨rows⟩ (randSel _ _) hdb (Nat.le_trans (randSel_len _ _) (by decide)) (Nat.le_trans (ansQ_le hd2) (by decide)), ?_⟩)
         | (refine Or.inr ⟨rfl, Or.inl ?_⟩; (conv => whnf); refine inAt_cur (c_l1Below ?_ ?_ ?_) (by rfl) (by rfl) (by rfl) ?_)
         | (refine Or.inr ⟨rfl, Or.inl ?_⟩; (conv => whnf); refine inAt_cur (c_l1Once ?_ ?_ ?_) (by rfl) (by rfl) (by rfl) ?_)
         | (refine Or.inr ⟨rfl, Or.inl ?_⟩; (conv => whnf); refine inAt_cur (c_l1BytesG ?_ ?_ ?_ ?_) (by rfl) (by rfl) (by rfl) ?_)
         | refine be_small (by decide) (by decide)
         | refine ⟨app1_bnd (rows := s.l.map DSignedAnswer.e) (by rw [List.length_map]; have := hs.len; omega), ?_⟩
         | (have hq : beV _ 5 = 0 := (by assumption); refine ⟨⟨?_, s.l ++ [upMac (nxA (IntKind.i64.wrap (1 + beV (nwC b) 99)) ⟨rows⟩ s.c) (IntKind.i64.wrap ((nxA (IntKind.i64.wrap (1 + beV (nwC b) 99)) ⟨rows⟩ s.c).MAC + 1))], ?_⟩, ?_, sub_at2 [(0, 3, 0), (1, 5, 0), (2, 7, 0), (3, 7, 1), (4, 8, 0)] rfl rfl rfl ?_ ?_⟩)
         | refine ⟨⟨?_, s.l ++ [nxA (IntKind.i64.wrap (1 + beV (nwC b) 99)) ⟨rows⟩ s.c], ?_⟩, ?_, sub_at2 [(0, 3, 0), (1, 5, 0), (2, 7, 0), (3, 7, 1), (4, 8, 0)] rfl rfl rfl ?_ ?_⟩
         | refine exQa (IntKind.i64.wrap (1 + beV (nwC b) 99), ⟨rows⟩, s.l) ?_ ?_
         | exact trivial
         | (with_reducible rfl)
         | exact (rfl : (0 : Int) = ((0 : Nat) : Int))
         | exact w64_nat arith
         | refine bcase_T (by first | with_reducible rfl | decide) ?_
         | refine bcase_F (by first | with_reducible rfl | decide) ?_
         | refine bcase_dec (fun _ => ?_) (fun _ => ?_)
         | refine bcase_not ?_
         | refine bcase_intro (fun _ => ?_) (fun _ => ?_)
         | refine ⟨(by with_reducible rfl), ?_⟩
         | refine ⟨congrArg vi ?_, ?_⟩
         | refine ⟨congrArg vb ?_, ?_⟩
         | refine ⟨rfl, ?_⟩
         | refine ⟨(by kernel_rfl : drawOK _ = true), ?_⟩
         | refine Or.inl ?_
         | refine ⟨⟨congrArg (T.int _) ?_, rfl⟩, ?_⟩
         | refine ⟨⟨congrArg T.bool ?_, rfl⟩, ?_⟩
         | refine ⟨⟨rfl, Nat.le_of_ble_eq_true rfl⟩, ?_⟩
         | refine ⟨⟨rfl, rfl⟩, ?_⟩
         | refine ⟨⟨rfl, (by decide)⟩, ?_⟩
         | refine ⟨⟨rfl, ?_⟩, ?_⟩
         | refine ⟨Or.inr rfl, ?_⟩
         | refine ⟨Or.inl rfl, ?_⟩
         | refine ⟨⟨⟨rfl, rfl, rfl⟩, ?_⟩, ?_⟩
         | refine ⟨_, _, rfl, row_get _ _ arith, rfl, ?_⟩
         | refine ⟨Or.inr (by repeat (first | exact trivial | refine ⟨rfl, ?_⟩)), ?_⟩
         | refine ⟨(?_ : _ = ([] : List (List T))), ?_⟩
         | fail))
  all_goals try rfl
  all_goals try (show _ = List.map _ (_ ++ [_]); rw [List.map_append]; rfl)
  all_goals first
    | (refine LAok.start ?_; repeat (first | assumption | refine beN_ok ?_ | refine cuI_ok ?_ _))
    | (refine hs.next (by assumption) ⟨Nat.le_trans (ansAs_le _ _ _ _ _).1 (randSel_len _ _), Nat.le_trans (ansAs_le _ _ _ _ _).2 (ansQ_le hd2)⟩ ?_; have hk := hs.ok; repeat (first | assumption | refine beN_ok ?_ | refine cuI_ok ?_ _))
    | exact ⟨hdb, ⟨by have := hs.len; show s.l.length ≤ _; omega, fun a ha => ⟨Nat.le_trans (hs.l a ha).1 (by decide), Nat.le_trans (hs.l a ha).2 (by decide)⟩⟩, by have := hs.len; show s.l.length ≤ _; omega⟩
    | exact app1_bnd (rows := s.l.map DSignedAnswer.e) (by rw [List.length_map]; have := hs.len; omega)
    | trace_state
end Go.Proofs.Ytdbgmncapignoaa
