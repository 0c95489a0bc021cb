/-
  Contracts: what the cursor draws of clients, known by its size.
  Conditions: none.
-/
import Derived.Test.YtdbgmncapignoaaFnDrd
import Derived.Test.YtdbgmncapignoaaFnRd
namespace Go.Proofs.Ytdbgmncapignoaa
set_option maxHeartbeats 4000000
set_option maxRecDepth 20000
open Go.Vm Go.RowKit
attribute [local irreducible] FnAt MutAt InAt JAt CurAt FnE CurE RegAt
attribute [local irreducible] beN cuI cuN beV byV newClient
theorem c_l1BytesG (c : Cu) (r : Int) (h : c.ok) (hr : 0 ≤ r ∧ r ≤ 1048576) : CurAt Try.prog 35 (Cu.e c) (Cu.e (cuI c r.toNat)) [.one (I r)] [.one (.l 1 ((byV c r.toNat).map eU))] :=
  c_l1BytesI c r r.toNat h (by omega) (by omega)
theorem inAt_curK {P : Program} {f : FuncId} {cs : List T} {xs : List V} {X : Type} {cs' : X → List T} {rs : X → List RV} {Q : X → Prop} {avs : List AV} {σ : St} {K : AV → St → Prop} {id : Nat} {ds : List C}
    (hk : ∀ x, Q x → K (impR ⟨σ.env, Vm.put σ.objs id (.box ((cs' x).map ancC)), σ.next⟩ (rs x)).1 ⟨σ.env, (impR ⟨σ.env, Vm.put σ.objs id (.box ((cs' x).map ancC)), σ.next⟩ (rs x)).2.objs, (impR ⟨σ.env, Vm.put σ.objs id (.box ((cs' x).map ancC)), σ.next⟩ (rs x)).2.next⟩)
    (hc : CurE P f cs xs X cs' rs Q) (hg : Vm.get σ.objs id = some (.box ds)) (hds : cellsT ds = some cs) (has : mapO (argW σ.objs) avs = some xs) : InAt P f (.ptr id 0 :: avs) σ K := inAt_curE hc hg hds has hk
theorem inAt_fnK {P : Program} {f : FuncId} {xs : List V} {X : Type} {rs : X → List RV} {Q : X → Prop} {avs : List AV} {σ : St} {K : AV → St → Prop}
    (hk : ∀ x, Q x → K (impR σ (rs x)).1 ⟨σ.env, (impR σ (rs x)).2.objs, (impR σ (rs x)).2.next⟩) (hc : FnE P f xs X rs Q) (has : mapO (argV σ.objs) avs = some xs) : InAt P f avs σ K := inAt_fnE hc has hk
theorem cur_ex {f : FuncId} {cs cs0 cs1 : List T} {xs as0 : List V} {rs0 : List RV} {K : List T → List RV → Prop} (hc : CurAt Try.prog f cs0 cs1 as0 rs0) (h1 : cs = cs0) (h2 : xs = as0) (hk : K cs1 rs0) : ∃ cs' rs, CurAt Try.prog f cs cs' xs rs ∧ K cs' rs := by
  subst h1 h2; exact ⟨_, _, hc, hk⟩
theorem be_small {c : Cu} {n : Int} (h : 0 < n) (h2 : n ≤ 1048576) : 0 ≤ beV c n ∧ beV c n ≤ 1048576 := by
  have := beV_lt (c := c) h
  omega
theorem get_mem {xs : List Int} {c : Cu} (h : 0 < xs.length) : xs[(beV c xs.length).toNat]?.getD 0 ∈ xs := by
  have hb := beV_lt (c := c) (n := (xs.length : Int)) (by omega)
  have hk : (beV c xs.length).toNat < xs.length := by omega
  rw [List.getElem?_eq_getElem hk]
  exact List.getElem_mem hk
structure cinv (n m : Nat) (x : DClient) : Prop where
  sub : x.Submitted.length ≤ n ∧ ∀ y ∈ x.Submitted, y.length ≤ 64
  inb : x.Inbox.length ≤ m ∧ ∀ y ∈ x.Inbox, y.length ≤ 64
theorem cinv.big {n m : Nat} {x : DClient} (h : cinv n m x) (hn : n ≤ 1024) (hm : m ≤ 1024) : bigC x :=
  ⟨⟨by have := h.sub.1; omega, fun y hy => by have := h.sub.2 y hy; omega⟩, ⟨by have := h.inb.1; omega, fun y hy => by have := h.inb.2 y hy; omega⟩⟩
theorem cinv.new (a b k s : Int) : cinv 0 0 (newClient a b k s) := by
  have h1 := newClient_sub a b k s
  exact ⟨by rw [h1.1]; simp, by rw [h1.2]; simp⟩
theorem cinv.mono {n m n' m' : Nat} {x : DClient} (h : cinv n m x) (h1 : n ≤ n') (h2 : m ≤ m') : cinv n' m' x :=
  ⟨⟨Nat.le_trans h.sub.1 h1, h.sub.2⟩, ⟨Nat.le_trans h.inb.1 h2, h.inb.2⟩⟩
theorem cinv.queue {m : Nat} {x : DClient} {b : List UInt8} (h : cinv 16 m x) (hb : b.length ≤ 64) : cinv 16 m (queueC x b) := by
  unfold queueC
  split
  · next hq =>
    simp only [queued, Bool.and_eq_true, clientOk, bodiesOk, decide_eq_true_eq] at hq
    have h2 : (((Go.Proofs.Ytdbgmncapignoaa.queue x b).Submitted.length : Nat) : Int) ≤ 16 := hq.2.1.1.1.2.2
    refine ⟨⟨by omega, fun y hy => ?_⟩, h.inb⟩
    rcases List.mem_append.1 hy with hy | hy
    · exact h.sub.2 y hy
    · rw [List.mem_singleton.1 hy]; exact hb
  · exact h
structure LC where
  n : Int
  x : DClient
  sn : Int
  nx : Int
  ib : List (List UInt8)
  c : Cu
def LC.a (s : LC) : DClient := { s.x with Next := s.nx }
def LC.z (s : LC) : DClient := { s.x with Sent := s.sn, Next := s.nx, Inbox := s.ib }
structure LC1 (s : LC) : Prop where
  ok : s.c.ok
  n : 0 ≤ s.n ∧ s.n ≤ 16
  x : cinv 16 0 s.a
structure LC2 (s : LC) : Prop where
  ok : s.c.ok
  n : 0 ≤ s.n ∧ s.n ≤ 2
  x : cinv 16 (2 - s.n.toNat) s.z
  sent : 0 ≤ s.sn
theorem LC1.start {a b k s v : Int} {c c' : Cu} (h : c'.ok) : LC1 ⟨[0, 1, 3, 16][(beV c (([0, 1, 3, 16] : List Int).length : Int)).toNat]?.getD 0, newClient a b k s, 0, v, [], c'⟩ := by
  have h1 := get_mem (xs := [0, 1, 3, 16]) (c := c) (by decide)
  have h2 := (cinv.new a b k s).mono (n' := 16) (m' := 0) (by decide) (by decide)
  refine ⟨h, ?_, h2.sub, h2.inb⟩
  generalize ([0, 1, 3, 16] : List Int)[(beV c (([0, 1, 3, 16] : List Int).length : Int)).toNat]?.getD 0 = v at h1
  simp only [List.mem_cons, List.not_mem_nil, or_false] at h1
  show 0 ≤ v ∧ v ≤ 16
  omega
theorem LC1.step {s : LC} (hs : LC1 s) (hn : 0 < s.n) {b : List UInt8} {c' : Cu} (hb : b.length ≤ 64) (hc : c'.ok) : LC1 ⟨IntKind.i64.wrap (s.n - 1), queueC s.a b, 0, (queueC s.a b).Next, [], c'⟩ ∧ (IntKind.i64.wrap (s.n - 1)).toNat < s.n.toNat := by
  have h1 := hs.n
  have h2 := cinv.queue (b := b) hs.x hb
  rw [w64_ok (by omega) (by omega)]
  exact ⟨⟨hc, by show 0 ≤ s.n - 1 ∧ s.n - 1 ≤ 16; omega, h2.sub, h2.inb⟩, by omega⟩
theorem LC2.start {s : LC} (hs : LC1 s) {c0 c1 c' : Cu} (hc : c'.ok) : LC2 ⟨beV c1 3, s.x, beV c0 (IntKind.i64.wrap (((s.x.Submitted.map (eL eU)).length : Int) + 1)), s.nx, s.x.Inbox, c'⟩ := by
  have h1 := hs.x.sub.1
  have h2 := beV_lt (c := c1) (n := 3) (by omega)
  have h4 : (s.x.Submitted.map (eL eU)).length ≤ 16 := by rw [List.length_map]; exact h1
  have h3 := beV_lt (c := c0) (n := IntKind.i64.wrap (((s.x.Submitted.map (eL eU)).length : Int) + 1)) (by rw [w64_ok (by omega) (by omega)]; omega)
  exact ⟨hc, by show 0 ≤ beV c1 3 ∧ beV c1 3 ≤ 2; omega, ⟨hs.x.sub, by have := hs.x.inb.1; show s.x.Inbox.length ≤ _; have e : s.a.Inbox = s.x.Inbox := rfl; rw [e] at this; omega, hs.x.inb.2⟩, h3.1⟩
theorem LC2.step {s : LC} (hs : LC2 s) (hn : 0 < s.n) {b : List UInt8} {c' : Cu} (hb : b.length ≤ 64) (hc : c'.ok) : LC2 ⟨IntKind.i64.wrap (s.n - 1), s.x, s.sn, s.nx, s.ib ++ [b], c'⟩ ∧ (IntKind.i64.wrap (s.n - 1)).toNat < s.n.toNat := by
  have h1 := hs.n
  rw [w64_ok (by omega) (by omega)]
  refine ⟨⟨hc, by show 0 ≤ s.n - 1 ∧ s.n - 1 ≤ 2; omega, ⟨hs.x.sub, ?_, fun y hy => ?_⟩, hs.sent⟩, by omega⟩
  · have h2 : s.ib.length ≤ 2 - s.n.toNat := hs.x.inb.1
    show (s.ib ++ [b]).length ≤ 2 - (s.n - 1).toNat
    simp only [List.length_append, List.length_cons, List.length_nil]
    omega
  · rcases List.mem_append.1 hy with hy | hy
    · exact hs.x.inb.2 y hy
    · rw [List.mem_singleton.1 hy]; exact hb
def st1 (s : LC) : St := ⟨[(0, .pin (.ptr 0 0)), (2, .ptr 1 0), (3, .ptr 2 0), (4, vi s.n)], [(0, .box [.anc (L eU s.c.b), .t (I s.c.i), .t (I s.c.h)]), (1, .box [.t (I 0), .t (I 0), .t (I 0), .t (I 0), .nil, .t (I 0), .nil, .t (I 0)]), (2, .box [.t (I s.x.Id), .t (I s.x.Friend), .t (I s.x.Key), .t (I s.x.Seed), .ref 3, .t (I s.x.Sent), .ref 4, .t (I s.nx)]), (3, .row true true 1 (s.x.Submitted.map (eL eU))), (4, .row true true 1 (s.x.Inbox.map (eL eU)))], 5⟩
def st2 (s : LC) : St := ⟨[(0, .pin (.ptr 0 0)), (2, .ptr 1 0), (3, .ptr 2 0), (5, vi s.n)], [(0, .box [.anc (L eU s.c.b), .t (I s.c.i), .t (I s.c.h)]), (1, .box [.t (I 0), .t (I 0), .t (I 0), .t (I 0), .nil, .t (I 0), .nil, .t (I 0)]), (2, .box [.t (I s.x.Id), .t (I s.x.Friend), .t (I s.x.Key), .t (I s.x.Seed), .ref 3, .t (I s.sn), .ref 4, .t (I s.nx)]), (3, .row true true 1 (s.x.Submitted.map (eL eU))), (4, .row true true 1 (s.ib.map (eL eU)))], 5⟩
attribute [local irreducible] queueC
theorem e_l29Client (c : Cu) (h : c.ok) : CurE Try.prog 95 (Cu.e c) [] (DClient × Cu) (fun x => Cu.e x.2) (fun x => [.agg (DClient.r x.1)]) (fun x => (cinv 16 2 x.1 ∧ 0 ≤ x.1.Sent) ∧ x.2.ok) := by
  refine curE_of Try.func95 rfl (by kernel_rfl) rfl ?_
  all_goals repeat' (first
    | (with_reducible rfl)
    | (conv => whnf
       first
         | (show Cu.ok _; repeat (first | assumption | refine beN_ok ?_ | refine cuI_ok ?_ _))
         | (refine Or.inr ⟨rfl, Or.inl ?_⟩; (conv => whnf); refine inAt_cur (c_l1Below ?_ ?_ ?_) (by rfl) (by rfl) (by rfl) ?_)
         | (refine Or.inr ⟨rfl, Or.inl ?_⟩; (conv => whnf); refine inAt_cur (c_l1Once ?_ ?_ ?_) (by rfl) (by rfl) (by rfl) ?_)
         | (refine Or.inr ⟨rfl, Or.inl ?_⟩; (conv => whnf); refine inAt_cur (c_l1Int ?_ [0, 1, 3, 16] ?_ (by decide) (by decide)) (by rfl) (by rfl) (by rfl) ?_)
         | refine ⟨_, c_sNewClient _ _ _ _, ?_⟩
         | exact trivial
         | (with_reducible rfl)
         | exact (rfl : (0 : Int) = ((0 : Nat) : Int))
         | exact w64_nat arith
         | refine bcase_T (by first | with_reducible rfl | decide) ?_
         | refine bcase_F (by first | with_reducible rfl | decide) ?_
         | refine bcase_dec (fun _ => ?_) (fun _ => ?_)
         | refine bcase_not ?_
         | refine bcase_intro (fun _ => ?_) (fun _ => ?_)
         | refine ⟨(by with_reducible rfl), ?_⟩
         | refine ⟨congrArg vi ?_, ?_⟩
         | refine ⟨congrArg vb ?_, ?_⟩
         | refine ⟨rfl, ?_⟩
         | refine ⟨(by kernel_rfl : drawOK _ = true), ?_⟩
         | refine Or.inl ?_
         | refine ⟨⟨congrArg (T.int _) ?_, rfl⟩, ?_⟩
         | refine ⟨⟨congrArg T.bool ?_, rfl⟩, ?_⟩
         | refine ⟨⟨rfl, Nat.le_of_ble_eq_true rfl⟩, ?_⟩
         | refine ⟨⟨rfl, rfl⟩, ?_⟩
         | refine ⟨⟨rfl, (by decide)⟩, ?_⟩
         | refine ⟨⟨rfl, ?_⟩, ?_⟩
         | refine ⟨Or.inr rfl, ?_⟩
         | refine ⟨Or.inl rfl, ?_⟩
         | refine ⟨⟨⟨rfl, rfl, rfl⟩, ?_⟩, ?_⟩
         | refine ⟨_, _, rfl, row_get _ _ arith, rfl, ?_⟩
         | refine ⟨Or.inr (by repeat (first | exact trivial | refine ⟨rfl, ?_⟩)), ?_⟩
         | refine ⟨(?_ : _ = ([] : List (List T))), ?_⟩
         | fail))
  all_goals (conv => whnf)
  all_goals refine ⟨LC, LC1, st1, fun s => s.n.toNat, ⟨?_, ?_, 0, ?_, [], ?_⟩, ?_, sub_at2 [(0, 0, 0), (1, 2, 0), (2, 3, 0), (3, 3, 5), (4, 3, 7)] rfl rfl rfl ?_ ?_, fun s hs => ?_⟩
  all_goals repeat' (first
    | (with_reducible rfl)
    | (conv => whnf
       first
         | refine ⟨Or.inl (by rfl), ?_⟩
         | refine be_small (by decide) (by decide)
         | (show Cu.ok _; have := hs.ok; repeat (first | assumption | refine beN_ok ?_ | refine cuI_ok ?_ _))
         | refine Or.inr ⟨(by kernel_rfl), 0, ⟨_, rfl⟩, ?_⟩
         | (refine Or.inl ?_; (conv => whnf); first | refine cur_ex (c_l1Below ?_ ?_ ?_) (by rfl) (by rfl) ?_ | refine cur_ex (c_l1BytesG ?_ ?_ ?_ ?_) (by rfl) (by rfl) ?_)
         | (refine Or.inr (?_ : hidO _ _ _ _ _ _ _); (conv => whnf); refine Or.inl ?_; (conv => whnf); refine ⟨_, c_sQueueMessage s.a (byV (beN s.c 5) (beV s.c 5).toNat) (hs.x.big (by decide) (by decide)) (by have := hs.x.sub.1; omega) (by rw [byV_len]; have := (be_small (c := s.c) (n := 5) (by decide) (by decide)); omega), ?_⟩)
         | (refine Or.inr ⟨rfl, Or.inl ?_⟩; (conv => whnf); refine inAt_cur (c_l1Below ?_ ?_ ?_) (by rfl) (by rfl) (by rfl) ?_)
         | (refine ⟨⟨?_, ?_, 0, ?_, [], ?_⟩, ?_, sub_at2 [(0, 0, 0), (1, 2, 0), (2, 3, 0), (3, 3, 5), (4, 3, 7)] rfl rfl rfl ?_ ?_⟩)
         | exact trivial
         | (with_reducible rfl)
         | exact (rfl : (0 : Int) = ((0 : Nat) : Int))
         | exact w64_nat arith
         | refine bcase_T (by first | with_reducible rfl | decide) ?_
         | refine bcase_F (by first | with_reducible rfl | decide) ?_
         | refine bcase_dec (fun _ => ?_) (fun _ => ?_)
         | refine bcase_not ?_
         | refine bcase_intro (fun _ => ?_) (fun _ => ?_)
         | refine ⟨(by with_reducible rfl), ?_⟩
         | refine ⟨congrArg vi ?_, ?_⟩
         | refine ⟨congrArg vb ?_, ?_⟩
         | refine ⟨rfl, ?_⟩
         | refine ⟨(by kernel_rfl : drawOK _ = true), ?_⟩
         | refine Or.inl ?_
         | refine ⟨⟨congrArg (T.int _) ?_, rfl⟩, ?_⟩
         | refine ⟨⟨congrArg T.bool ?_, rfl⟩, ?_⟩
         | refine ⟨⟨rfl, Nat.le_of_ble_eq_true rfl⟩, ?_⟩
         | refine ⟨⟨rfl, rfl⟩, ?_⟩
         | refine ⟨⟨rfl, (by decide)⟩, ?_⟩
         | refine ⟨⟨rfl, ?_⟩, ?_⟩
         | refine ⟨Or.inr rfl, ?_⟩
         | refine ⟨Or.inl rfl, ?_⟩
         | refine ⟨⟨⟨rfl, rfl, rfl⟩, ?_⟩, ?_⟩
         | refine ⟨_, _, rfl, row_get _ _ arith, rfl, ?_⟩
         | refine ⟨Or.inr (by repeat (first | exact trivial | refine ⟨rfl, ?_⟩)), ?_⟩
         | refine ⟨(?_ : _ = ([] : List (List T))), ?_⟩
         | fail))
  all_goals first | ((conv => whnf); refine ⟨LC, LC2, st2, fun s => s.n.toNat, ⟨?_, s.x, ?_, ?_, s.x.Inbox, ?_⟩, ?_, sub_at2 [(0, 0, 0), (1, 2, 0), (2, 3, 0), (3, 3, 5), (4, 3, 7)] rfl rfl rfl ?_ ?_, fun u hu => ?_⟩) | skip
  all_goals repeat' (first
    | (with_reducible rfl)
    | (conv => whnf
       first
         | refine ⟨Or.inl (by rfl), ?_⟩
         | refine be_small (by decide) (by decide)
         | (show Cu.ok _; first | (have := hu.ok; repeat (first | assumption | refine beN_ok ?_ | refine cuI_ok ?_ _)) | (have := hs.ok; repeat (first | assumption | refine beN_ok ?_ | refine cuI_ok ?_ _)))
         | refine Or.inr ⟨(by kernel_rfl), 0, ⟨_, rfl⟩, ?_⟩
         | (refine Or.inl ?_; (conv => whnf); first | refine cur_ex (c_l1Below ?_ ?_ ?_) (by rfl) (by rfl) ?_ | refine cur_ex (c_l1BytesG ?_ ?_ ?_ ?_) (by rfl) (by rfl) ?_)
         | (have h8 : u.ib.length ≤ _ := hu.x.inb.1; refine ⟨⟨bnd, bnd⟩, ?_⟩)
         | (refine ⟨⟨?_, u.x, u.sn, u.nx, u.ib ++ [byV (beN u.c 4) (beV u.c 4).toNat], ?_⟩, ?_, sub_at2 [(0, 0, 0), (1, 2, 0), (2, 3, 0), (3, 3, 5), (4, 3, 7)] rfl rfl rfl ?_ ?_⟩)
         | refine ⟨(u.z, u.c), ?_, ?_⟩
         | exact trivial
         | (with_reducible rfl)
         | exact (rfl : (0 : Int) = ((0 : Nat) : Int))
         | exact w64_nat arith
         | refine bcase_T (by first | with_reducible rfl | decide) ?_
         | refine bcase_F (by first | with_reducible rfl | decide) ?_
         | refine bcase_dec (fun _ => ?_) (fun _ => ?_)
         | refine bcase_not ?_
         | refine bcase_intro (fun _ => ?_) (fun _ => ?_)
         | refine ⟨(by with_reducible rfl), ?_⟩
         | refine ⟨congrArg vi ?_, ?_⟩
         | refine ⟨congrArg vb ?_, ?_⟩
         | refine ⟨rfl, ?_⟩
         | refine ⟨(by kernel_rfl : drawOK _ = true), ?_⟩
         | refine Or.inl ?_
         | refine ⟨⟨congrArg (T.int _) ?_, rfl⟩, ?_⟩
         | refine ⟨⟨congrArg T.bool ?_, rfl⟩, ?_⟩
         | refine ⟨⟨rfl, Nat.le_of_ble_eq_true rfl⟩, ?_⟩
         | refine ⟨⟨rfl, rfl⟩, ?_⟩
         | refine ⟨⟨rfl, (by decide)⟩, ?_⟩
         | refine ⟨⟨rfl, ?_⟩, ?_⟩
         | refine ⟨Or.inr rfl, ?_⟩
         | refine ⟨Or.inl rfl, ?_⟩
         | refine ⟨⟨⟨rfl, rfl, rfl⟩, ?_⟩, ?_⟩
         | refine ⟨_, _, rfl, row_get _ _ arith, rfl, ?_⟩
         | refine ⟨Or.inr (by repeat (first | exact trivial | refine ⟨rfl, ?_⟩)), ?_⟩
         | refine ⟨(?_ : _ = ([] : List (List T))), ?_⟩
         | fail))
  all_goals first
    | rfl
    | (refine LC1.start ?_; repeat (first | assumption | refine beN_ok ?_ | refine cuI_ok ?_ _))
    | (refine LC1.step hs (by assumption) (by rw [byV_len]; have := beV_lt (c := s.c) (n := 5) (by decide); omega) ?_; have := hs.ok; repeat (first | assumption | refine beN_ok ?_ | refine cuI_ok ?_ _))
    | (refine LC2.start hs ?_; have := hs.ok; repeat (first | assumption | refine beN_ok ?_ | refine cuI_ok ?_ _))
    | (refine LC2.step hu (by assumption) (by rw [byV_len]; have := beV_lt (c := u.c) (n := 4) (by decide); omega) ?_; have := hu.ok; repeat (first | assumption | refine beN_ok ?_ | refine cuI_ok ?_ _))
    | (show _ = List.map (eL eU) (u.ib ++ [_]); rw [List.map_append]; rfl)
    | exact ⟨⟨hu.x.mono (Nat.le_refl _) (Nat.sub_le _ _), hu.sent⟩, hu.ok⟩
    | trace_state
end Go.Proofs.Ytdbgmncapignoaa
