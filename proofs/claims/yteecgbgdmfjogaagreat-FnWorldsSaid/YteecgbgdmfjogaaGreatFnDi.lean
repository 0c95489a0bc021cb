/-
  Contracts: what the cursor draws of clients, known by its size.
  Contracts: what the cursor draws of clients and devices, known by its size.
  Contract: what a code draws of clients and reads, known by its size.
  Contracts: what the cursor draws of devices, known by its size.
  Contracts: what a code draws of devices and reads, known by its size.
  Conditions: none.
-/
import Derived.Test.YteecgbgdmfjogaaGreatFnDrd
import Derived.Test.YteecgbgdmfjogaaGreatFnRd
import Derived.Test.YteecgbgdmfjogaaGreatVmAm
namespace Go.Proofs.YteecgbgdmfjogaaGreat
set_option maxHeartbeats 4000000
set_option maxRecDepth 20000
open Go.Vm Go.RowKit
attribute [local irreducible] FnAt MutAt InAt JAt CurAt FnE CurE RegAt
attribute [local irreducible] beN cuI cuN beV byV newClient
theorem c_l1BytesG (c : Cu) (r : Int) (h : c.ok) (hr : 0 ≤ r ∧ r ≤ 1048576) : CurAt Tryz.prog 50 (Cu.e c) (Cu.e (cuI c r.toNat)) [.one (I r)] [.one (.l 1 ((byV c r.toNat).map eU))] :=
  c_l1BytesI c r r.toNat h (by omega) (by omega)
theorem inAt_curK {P : Program} {f : FuncId} {cs : List T} {xs : List V} {X : Type} {cs' : X → List T} {rs : X → List RV} {Q : X → Prop} {avs : List AV} {σ : St} {K : AV → St → Prop} {id : Nat} {ds : List C}
    (hk : ∀ x, Q x → K (impR ⟨σ.env, Vm.put σ.objs id (.box ((cs' x).map ancC)), σ.next⟩ (rs x)).1 ⟨σ.env, (impR ⟨σ.env, Vm.put σ.objs id (.box ((cs' x).map ancC)), σ.next⟩ (rs x)).2.objs, (impR ⟨σ.env, Vm.put σ.objs id (.box ((cs' x).map ancC)), σ.next⟩ (rs x)).2.next⟩)
    (hc : CurE P f cs xs X cs' rs Q) (hg : Vm.get σ.objs id = some (.box ds)) (hds : cellsT ds = some cs) (has : mapO (argW σ.objs) avs = some xs) : InAt P f (.ptr id 0 :: avs) σ K := inAt_curE hc hg hds has hk
theorem inAt_fnK {P : Program} {f : FuncId} {xs : List V} {X : Type} {rs : X → List RV} {Q : X → Prop} {avs : List AV} {σ : St} {K : AV → St → Prop}
    (hk : ∀ x, Q x → K (impR σ (rs x)).1 ⟨σ.env, (impR σ (rs x)).2.objs, (impR σ (rs x)).2.next⟩) (hc : FnE P f xs X rs Q) (has : mapO (argV σ.objs) avs = some xs) : InAt P f avs σ K := inAt_fnE hc has hk
theorem cur_ex {f : FuncId} {cs cs0 cs1 : List T} {xs as0 : List V} {rs0 : List RV} {K : List T → List RV → Prop} (hc : CurAt Tryz.prog f cs0 cs1 as0 rs0) (h1 : cs = cs0) (h2 : xs = as0) (hk : K cs1 rs0) : ∃ cs' rs, CurAt Tryz.prog f cs cs' xs rs ∧ K cs' rs := by
  subst h1 h2; exact ⟨_, _, hc, hk⟩
theorem be_small {c : Cu} {n : Int} (h : 0 < n) (h2 : n ≤ 1048576) : 0 ≤ beV c n ∧ beV c n ≤ 1048576 := by
  have := beV_lt (c := c) h
  omega
theorem get_mem {xs : List Int} {c : Cu} (h : 0 < xs.length) : xs[(beV c xs.length).toNat]?.getD 0 ∈ xs := by
  have hb := beV_lt (c := c) (n := (xs.length : Int)) (by omega)
  have hk : (beV c xs.length).toNat < xs.length := by omega
  rw [List.getElem?_eq_getElem hk]
  exact List.getElem_mem hk
structure cinv (n m : Nat) (x : DClient) : Prop where
  sub : x.Submitted.length ≤ n ∧ ∀ y ∈ x.Submitted, y.length ≤ 64
  inb : x.Inbox.length ≤ m ∧ ∀ y ∈ x.Inbox, y.length ≤ 64
theorem cinv.big {n m : Nat} {x : DClient} (h : cinv n m x) (hn : n ≤ 1024) (hm : m ≤ 1024) : bigC x :=
  ⟨⟨by have := h.sub.1; omega, fun y hy => by have := h.sub.2 y hy; omega⟩, ⟨by have := h.inb.1; omega, fun y hy => by have := h.inb.2 y hy; omega⟩⟩
theorem cinv.new (a b k s : Int) : cinv 0 0 (newClient a b k s) := by
  have h1 := newClient_sub a b k s
  exact ⟨by rw [h1.1]; simp, by rw [h1.2]; simp⟩
theorem cinv.mono {n m n' m' : Nat} {x : DClient} (h : cinv n m x) (h1 : n ≤ n') (h2 : m ≤ m') : cinv n' m' x :=
  ⟨⟨Nat.le_trans h.sub.1 h1, h.sub.2⟩, ⟨Nat.le_trans h.inb.1 h2, h.inb.2⟩⟩
theorem cinv.queue {m : Nat} {x : DClient} {b : List UInt8} (h : cinv 16 m x) (hb : b.length ≤ 64) : cinv 16 m (queueC x b) := by
  unfold queueC
  split
  · next hq =>
    simp only [queued, Bool.and_eq_true, clientOk, bodiesOk, decide_eq_true_eq] at hq
    have h2 : (((Go.Proofs.YteecgbgdmfjogaaGreat.queue x b).Submitted.length : Nat) : Int) ≤ 16 := hq.2.1.1.1.2.2
    refine ⟨⟨by omega, fun y hy => ?_⟩, h.inb⟩
    rcases List.mem_append.1 hy with hy | hy
    · exact h.sub.2 y hy
    · rw [List.mem_singleton.1 hy]; exact hb
  · exact h
structure LC where
  n : Int
  x : DClient
  sn : Int
  nx : Int
  ib : List (List UInt8)
  c : Cu
def LC.a (s : LC) : DClient := { s.x with Next := s.nx }
def LC.z (s : LC) : DClient := { s.x with Sent := s.sn, Next := s.nx, Inbox := s.ib }
structure LC1 (s : LC) : Prop where
  ok : s.c.ok
  n : 0 ≤ s.n ∧ s.n ≤ 16
  x : cinv 16 0 s.a
structure LC2 (s : LC) : Prop where
  ok : s.c.ok
  n : 0 ≤ s.n ∧ s.n ≤ 2
  x : cinv 16 (2 - s.n.toNat) s.z
  sent : 0 ≤ s.sn
theorem LC1.start {a b k s v : Int} {c c' : Cu} (h : c'.ok) : LC1 ⟨[0, 1, 3, 16][(beV c (([0, 1, 3, 16] : List Int).length : Int)).toNat]?.getD 0, newClient a b k s, 0, v, [], c'⟩ := by
  have h1 := get_mem (xs := [0, 1, 3, 16]) (c := c) (by decide)
  have h2 := (cinv.new a b k s).mono (n' := 16) (m' := 0) (by decide) (by decide)
  refine ⟨h, ?_, h2.sub, h2.inb⟩
  generalize ([0, 1, 3, 16] : List Int)[(beV c (([0, 1, 3, 16] : List Int).length : Int)).toNat]?.getD 0 = v at h1
  simp only [List.mem_cons, List.not_mem_nil, or_false] at h1
  show 0 ≤ v ∧ v ≤ 16
  omega
theorem LC1.step {s : LC} (hs : LC1 s) (hn : 0 < s.n) {b : List UInt8} {c' : Cu} (hb : b.length ≤ 64) (hc : c'.ok) : LC1 ⟨IntKind.i64.wrap (s.n - 1), queueC s.a b, 0, (queueC s.a b).Next, [], c'⟩ ∧ (IntKind.i64.wrap (s.n - 1)).toNat < s.n.toNat := by
  have h1 := hs.n
  have h2 := cinv.queue (b := b) hs.x hb
  rw [w64_ok (by omega) (by omega)]
  exact ⟨⟨hc, by show 0 ≤ s.n - 1 ∧ s.n - 1 ≤ 16; omega, h2.sub, h2.inb⟩, by omega⟩
theorem LC2.start {s : LC} (hs : LC1 s) {c0 c1 c' : Cu} (hc : c'.ok) : LC2 ⟨beV c1 3, s.x, beV c0 (IntKind.i64.wrap (((s.x.Submitted.map (eL eU)).length : Int) + 1)), s.nx, s.x.Inbox, c'⟩ := by
  have h1 := hs.x.sub.1
  have h2 := beV_lt (c := c1) (n := 3) (by omega)
  have h4 : (s.x.Submitted.map (eL eU)).length ≤ 16 := by rw [List.length_map]; exact h1
  have h3 := beV_lt (c := c0) (n := IntKind.i64.wrap (((s.x.Submitted.map (eL eU)).length : Int) + 1)) (by rw [w64_ok (by omega) (by omega)]; omega)
  exact ⟨hc, by show 0 ≤ beV c1 3 ∧ beV c1 3 ≤ 2; omega, ⟨hs.x.sub, by have := hs.x.inb.1; show s.x.Inbox.length ≤ _; have e : s.a.Inbox = s.x.Inbox := rfl; rw [e] at this; omega, hs.x.inb.2⟩, h3.1⟩
theorem LC2.step {s : LC} (hs : LC2 s) (hn : 0 < s.n) {b : List UInt8} {c' : Cu} (hb : b.length ≤ 64) (hc : c'.ok) : LC2 ⟨IntKind.i64.wrap (s.n - 1), s.x, s.sn, s.nx, s.ib ++ [b], c'⟩ ∧ (IntKind.i64.wrap (s.n - 1)).toNat < s.n.toNat := by
  have h1 := hs.n
  rw [w64_ok (by omega) (by omega)]
  refine ⟨⟨hc, by show 0 ≤ s.n - 1 ∧ s.n - 1 ≤ 2; omega, ⟨hs.x.sub, ?_, fun y hy => ?_⟩, hs.sent⟩, by omega⟩
  · have h2 : s.ib.length ≤ 2 - s.n.toNat := hs.x.inb.1
    show (s.ib ++ [b]).length ≤ 2 - (s.n - 1).toNat
    simp only [List.length_append, List.length_cons, List.length_nil]
    omega
  · rcases List.mem_append.1 hy with hy | hy
    · exact hs.x.inb.2 y hy
    · rw [List.mem_singleton.1 hy]; exact hb
def st1 (s : LC) : St := ⟨[(0, .pin (.ptr 0 0)), (2, .ptr 1 0), (3, .ptr 2 0), (4, vi s.n)], [(0, .box [.anc (L eU s.c.b), .t (I s.c.i), .t (I s.c.h)]), (1, .box [.t (I 0), .t (I 0), .t (I 0), .t (I 0), .nil, .t (I 0), .nil, .t (I 0)]), (2, .box [.t (I s.x.Id), .t (I s.x.Friend), .t (I s.x.Key), .t (I s.x.Seed), .ref 3, .t (I s.x.Sent), .ref 4, .t (I s.nx)]), (3, .row true true 1 (s.x.Submitted.map (eL eU))), (4, .row true true 1 (s.x.Inbox.map (eL eU)))], 5⟩
def st2 (s : LC) : St := ⟨[(0, .pin (.ptr 0 0)), (2, .ptr 1 0), (3, .ptr 2 0), (5, vi s.n)], [(0, .box [.anc (L eU s.c.b), .t (I s.c.i), .t (I s.c.h)]), (1, .box [.t (I 0), .t (I 0), .t (I 0), .t (I 0), .nil, .t (I 0), .nil, .t (I 0)]), (2, .box [.t (I s.x.Id), .t (I s.x.Friend), .t (I s.x.Key), .t (I s.x.Seed), .ref 3, .t (I s.sn), .ref 4, .t (I s.nx)]), (3, .row true true 1 (s.x.Submitted.map (eL eU))), (4, .row true true 1 (s.ib.map (eL eU)))], 5⟩
attribute [local irreducible] queueC
theorem e_l29Client (c : Cu) (h : c.ok) : CurE Tryz.prog 124 (Cu.e c) [] (DClient × Cu) (fun x => Cu.e x.2) (fun x => [.agg (DClient.r x.1)]) (fun x => (cinv 16 2 x.1 ∧ 0 ≤ x.1.Sent) ∧ x.2.ok) := by
  refine curE_of Tryz.func124 rfl (by kernel_rfl) rfl ?_
  all_goals repeat' (first | (with_reducible rfl) | ((conv => whnf); first | (show Cu.ok _; repeat (first | assumption | refine beN_ok ?_ | refine cuI_ok ?_ _)) | (refine Or.inr ⟨rfl, Or.inl ?_⟩; (conv => whnf); refine inAt_cur (c_l1Below ?_ ?_ ?_) (by rfl) (by rfl) (by rfl) ?_) | (refine Or.inr ⟨rfl, Or.inl ?_⟩; (conv => whnf); refine inAt_cur (c_l1Once ?_ ?_ ?_) (by rfl) (by rfl) (by rfl) ?_) | (refine Or.inr ⟨rfl, Or.inl ?_⟩; (conv => whnf); refine inAt_cur (c_l1Int ?_ [0, 1, 3, 16] ?_ (by decide) (by decide)) (by rfl) (by rfl) (by rfl) ?_) | refine ⟨_, c_sNewClient _ _ _ _, ?_⟩ | exact trivial | (with_reducible rfl) | exact (rfl : (0 : Int) = ((0 : Nat) : Int)) | exact w64_nat arith | refine bcase_T (by first | with_reducible rfl | decide) ?_ | refine bcase_F (by first | with_reducible rfl | decide) ?_ | refine bcase_dec (fun _ => ?_) (fun _ => ?_) | refine bcase_not ?_ | refine bcase_intro (fun _ => ?_) (fun _ => ?_) | refine ⟨(by with_reducible rfl), ?_⟩ | refine ⟨congrArg vi ?_, ?_⟩ | refine ⟨congrArg vb ?_, ?_⟩ | refine ⟨rfl, ?_⟩ | refine ⟨(by kernel_rfl : drawOK _ = true), ?_⟩ | refine Or.inl ?_ | refine ⟨⟨congrArg (T.int _) ?_, rfl⟩, ?_⟩ | refine ⟨⟨congrArg T.bool ?_, rfl⟩, ?_⟩ | refine ⟨⟨rfl, Nat.le_of_ble_eq_true rfl⟩, ?_⟩ | refine ⟨⟨rfl, rfl⟩, ?_⟩ | refine ⟨⟨rfl, (by decide)⟩, ?_⟩ | refine ⟨⟨rfl, ?_⟩, ?_⟩ | refine ⟨Or.inr rfl, ?_⟩ | refine ⟨Or.inl rfl, ?_⟩ | refine ⟨⟨⟨rfl, rfl, rfl⟩, ?_⟩, ?_⟩ | refine ⟨_, _, rfl, row_get _ _ arith, rfl, ?_⟩ | refine ⟨Or.inr (by repeat (first | exact trivial | refine ⟨rfl, ?_⟩)), ?_⟩ | refine ⟨(?_ : _ = ([] : List (List T))), ?_⟩ | fail))
  all_goals (conv => whnf)
  all_goals refine ⟨LC, LC1, st1, fun s => s.n.toNat, ⟨?_, ?_, 0, ?_, [], ?_⟩, ?_, sub_at2 [(0, 0, 0), (1, 2, 0), (2, 3, 0), (3, 3, 5), (4, 3, 7)] rfl rfl rfl ?_ ?_, fun s hs => ?_⟩
  all_goals repeat' (first | (with_reducible rfl) | ((conv => whnf); first | refine ⟨Or.inl (by rfl), ?_⟩ | refine be_small (by decide) (by decide) | (show Cu.ok _; have := hs.ok; repeat (first | assumption | refine beN_ok ?_ | refine cuI_ok ?_ _)) | refine Or.inr ⟨(by kernel_rfl), 0, ⟨_, rfl⟩, ?_⟩ | (refine Or.inl ?_; (conv => whnf); first | refine cur_ex (c_l1Below ?_ ?_ ?_) (by rfl) (by rfl) ?_ | refine cur_ex (c_l1BytesG ?_ ?_ ?_ ?_) (by rfl) (by rfl) ?_) | (refine Or.inr (?_ : hidO _ _ _ _ _ _ _); (conv => whnf); refine Or.inl ?_; (conv => whnf); refine ⟨_, c_sQueueMessage s.a (byV (beN s.c 5) (beV s.c 5).toNat) (hs.x.big (by decide) (by decide)) (by have := hs.x.sub.1; omega) (by rw [byV_len]; have := (be_small (c := s.c) (n := 5) (by decide) (by decide)); omega), ?_⟩) | (refine Or.inr ⟨rfl, Or.inl ?_⟩; (conv => whnf); refine inAt_cur (c_l1Below ?_ ?_ ?_) (by rfl) (by rfl) (by rfl) ?_) | (refine ⟨⟨?_, ?_, 0, ?_, [], ?_⟩, ?_, sub_at2 [(0, 0, 0), (1, 2, 0), (2, 3, 0), (3, 3, 5), (4, 3, 7)] rfl rfl rfl ?_ ?_⟩) | exact trivial | (with_reducible rfl) | exact (rfl : (0 : Int) = ((0 : Nat) : Int)) | exact w64_nat arith | refine bcase_T (by first | with_reducible rfl | decide) ?_ | refine bcase_F (by first | with_reducible rfl | decide) ?_ | refine bcase_dec (fun _ => ?_) (fun _ => ?_) | refine bcase_not ?_ | refine bcase_intro (fun _ => ?_) (fun _ => ?_) | refine ⟨(by with_reducible rfl), ?_⟩ | refine ⟨congrArg vi ?_, ?_⟩ | refine ⟨congrArg vb ?_, ?_⟩ | refine ⟨rfl, ?_⟩ | refine ⟨(by kernel_rfl : drawOK _ = true), ?_⟩ | refine Or.inl ?_ | refine ⟨⟨congrArg (T.int _) ?_, rfl⟩, ?_⟩ | refine ⟨⟨congrArg T.bool ?_, rfl⟩, ?_⟩ | refine ⟨⟨rfl, Nat.le_of_ble_eq_true rfl⟩, ?_⟩ | refine ⟨⟨rfl, rfl⟩, ?_⟩ | refine ⟨⟨rfl, (by decide)⟩, ?_⟩ | refine ⟨⟨rfl, ?_⟩, ?_⟩ | refine ⟨Or.inr rfl, ?_⟩ | refine ⟨Or.inl rfl, ?_⟩ | refine ⟨⟨⟨rfl, rfl, rfl⟩, ?_⟩, ?_⟩ | refine ⟨_, _, rfl, row_get _ _ arith, rfl, ?_⟩ | refine ⟨Or.inr (by repeat (first | exact trivial | refine ⟨rfl, ?_⟩)), ?_⟩ | refine ⟨(?_ : _ = ([] : List (List T))), ?_⟩ | fail))
  all_goals first | ((conv => whnf); refine ⟨LC, LC2, st2, fun s => s.n.toNat, ⟨?_, s.x, ?_, ?_, s.x.Inbox, ?_⟩, ?_, sub_at2 [(0, 0, 0), (1, 2, 0), (2, 3, 0), (3, 3, 5), (4, 3, 7)] rfl rfl rfl ?_ ?_, fun u hu => ?_⟩) | skip
  all_goals repeat' (first | (with_reducible rfl) | ((conv => whnf); first | refine ⟨Or.inl (by rfl), ?_⟩ | refine be_small (by decide) (by decide) | (show Cu.ok _; first | (have := hu.ok; repeat (first | assumption | refine beN_ok ?_ | refine cuI_ok ?_ _)) | (have := hs.ok; repeat (first | assumption | refine beN_ok ?_ | refine cuI_ok ?_ _))) | refine Or.inr ⟨(by kernel_rfl), 0, ⟨_, rfl⟩, ?_⟩ | (refine Or.inl ?_; (conv => whnf); first | refine cur_ex (c_l1Below ?_ ?_ ?_) (by rfl) (by rfl) ?_ | refine cur_ex (c_l1BytesG ?_ ?_ ?_ ?_) (by rfl) (by rfl) ?_) | (have h8 : u.ib.length ≤ _ := hu.x.inb.1; refine ⟨⟨bnd, bnd⟩, ?_⟩) | (refine ⟨⟨?_, u.x, u.sn, u.nx, u.ib ++ [byV (beN u.c 4) (beV u.c 4).toNat], ?_⟩, ?_, sub_at2 [(0, 0, 0), (1, 2, 0), (2, 3, 0), (3, 3, 5), (4, 3, 7)] rfl rfl rfl ?_ ?_⟩) | refine ⟨(u.z, u.c), ?_, ?_⟩ | exact trivial | (with_reducible rfl) | exact (rfl : (0 : Int) = ((0 : Nat) : Int)) | exact w64_nat arith | refine bcase_T (by first | with_reducible rfl | decide) ?_ | refine bcase_F (by first | with_reducible rfl | decide) ?_ | refine bcase_dec (fun _ => ?_) (fun _ => ?_) | refine bcase_not ?_ | refine bcase_intro (fun _ => ?_) (fun _ => ?_) | refine ⟨(by with_reducible rfl), ?_⟩ | refine ⟨congrArg vi ?_, ?_⟩ | refine ⟨congrArg vb ?_, ?_⟩ | refine ⟨rfl, ?_⟩ | refine ⟨(by kernel_rfl : drawOK _ = true), ?_⟩ | refine Or.inl ?_ | refine ⟨⟨congrArg (T.int _) ?_, rfl⟩, ?_⟩ | refine ⟨⟨congrArg T.bool ?_, rfl⟩, ?_⟩ | refine ⟨⟨rfl, Nat.le_of_ble_eq_true rfl⟩, ?_⟩ | refine ⟨⟨rfl, rfl⟩, ?_⟩ | refine ⟨⟨rfl, (by decide)⟩, ?_⟩ | refine ⟨⟨rfl, ?_⟩, ?_⟩ | refine ⟨Or.inr rfl, ?_⟩ | refine ⟨Or.inl rfl, ?_⟩ | refine ⟨⟨⟨rfl, rfl, rfl⟩, ?_⟩, ?_⟩ | refine ⟨_, _, rfl, row_get _ _ arith, rfl, ?_⟩ | refine ⟨Or.inr (by repeat (first | exact trivial | refine ⟨rfl, ?_⟩)), ?_⟩ | refine ⟨(?_ : _ = ([] : List (List T))), ?_⟩ | fail))
  all_goals first
    | rfl
    | (refine LC1.start ?_; repeat (first | assumption | refine beN_ok ?_ | refine cuI_ok ?_ _))
    | (refine LC1.step hs (by assumption) (by rw [byV_len]; have := beV_lt (c := s.c) (n := 5) (by decide); omega) ?_; have := hs.ok; repeat (first | assumption | refine beN_ok ?_ | refine cuI_ok ?_ _))
    | (refine LC2.start hs ?_; have := hs.ok; repeat (first | assumption | refine beN_ok ?_ | refine cuI_ok ?_ _))
    | (refine LC2.step hu (by assumption) (by rw [byV_len]; have := beV_lt (c := u.c) (n := 4) (by decide); omega) ?_; have := hu.ok; repeat (first | assumption | refine beN_ok ?_ | refine cuI_ok ?_ _))
    | (show _ = List.map (eL eU) (u.ib ++ [_]); rw [List.map_append]; rfl)
    | exact ⟨⟨hu.x.mono (Nat.le_refl _) (Nat.sub_le _ _), hu.sent⟩, hu.ok⟩
    | trace_state
end Go.Proofs.YteecgbgdmfjogaaGreat

namespace Go.Proofs.YteecgbgdmfjogaaGreat
set_option maxHeartbeats 4000000
set_option maxRecDepth 20000
open Go.Vm Go.RowKit
attribute [local irreducible] FnAt MutAt InAt JAt CurAt FnE CurE RegAt
attribute [local irreducible] beN cuI cuN beV byV newClient queueC IntKind.wrap
theorem exQ {X : Type} {Q R : X → Prop} (x : X) (h : R x) (hq : Q x) : ∃ x, Q x ∧ R x := ⟨x, hq, h⟩
def rowsB (n : Nat) (rows : List (List T)) : Prop := ∃ l : List (List UInt8), rows = l.map (eL eU) ∧ l.length ≤ n ∧ ∀ y ∈ l, y.length ≤ 64
theorem rowsB.of {n m : Nat} {l : List (List UInt8)} (h : l.length ≤ n ∧ ∀ y ∈ l, y.length ≤ 64) (hm : n ≤ m) : rowsB m (l.map (eL eU)) := ⟨l, rfl, Nat.le_trans h.1 hm, h.2⟩
theorem rowsB.add {n m : Nat} {l : List (List UInt8)} {x : List UInt8} {r : List (List T)} (h : l.length ≤ n ∧ ∀ y ∈ l, y.length ≤ 64) (hm : n + 1 ≤ m) (hx : x.length ≤ 64) (hr : r = [[L eU x]]) : rowsB m (l.map (eL eU) ++ r) := by
  refine ⟨l ++ [x], by rw [List.map_append, hr]; rfl, by simp only [List.length_append, List.length_cons, List.length_nil]; omega, fun y hy => ?_⟩
  rcases List.mem_append.1 hy with hy | hy
  · exact h.2 y hy
  · rw [List.mem_singleton.1 hy]; exact hx
theorem rowsB.zero {m n : Nat} (h : n ≤ m) : rowsB m (List.replicate n [T.lst []]) :=
  ⟨List.replicate n [], by rw [List.map_replicate]; rfl, by simpa using h, fun y hy => by rw [(List.mem_replicate.1 hy).2]; simp⟩
theorem mk_eq {n : Int} (h : 0 ≤ n) : n = ((n.toNat : Nat) : Int) := by omega
theorem mk_bnd {c : Cu} {k : Int} (h0 : 0 ≤ k) (h1 : k ≤ 16) : 0 ≤ IntKind.i64.wrap (k + beV c 2) ∧ (IntKind.i64.wrap (k + beV c 2)).toNat ≤ k.toNat + 1 := by
  have := beV_lt (c := c) (n := 2) (by decide)
  rw [w64_ok (by omega) (by omega)]; omega
theorem mk_bytes {m b : Nat} (h : m ≤ 64) (hb : b ≤ 64) : m * b ≤ 140737488355328 ∧ m ≤ 140737488355328 :=
  ⟨Nat.le_trans (Nat.mul_le_mul h hb) (by decide), by omega⟩
theorem e_l13Key (c : Cu) (h : c.ok) : CurE Tryz.prog 76 (Cu.e c) [] (Int × Cu) (fun x => Cu.e x.2) (fun x => [.one (.s (I x.1))]) (fun x => x.2.ok) := by
  refine curE_of Tryz.func76 rfl (by kernel_rfl) rfl ?_
  all_goals repeat' (first | (with_reducible rfl) | ((conv => whnf); first | (show Cu.ok _; repeat (first | assumption | refine beN_ok ?_ | refine cuI_ok ?_ _)) | (refine Or.inr ⟨rfl, Or.inl ?_⟩; (conv => whnf); refine inAt_cur (c_l1Below ?_ ?_ ?_) (by rfl) (by rfl) (by rfl) ?_) | (refine Or.inr ⟨rfl, Or.inl ?_⟩; (conv => whnf); refine inAt_cur (c_l1Once ?_ ?_ ?_) (by rfl) (by rfl) (by rfl) ?_) | (refine Or.inr ⟨rfl, Or.inl ?_⟩; (conv => whnf); refine inAt_cur (c_l1BytesG ?_ ?_ ?_ ?_) (by rfl) (by rfl) (by rfl) ?_) | refine be_small (by decide) (by decide) | (refine Or.inr ⟨rfl, Or.inl ?_⟩; (conv => whnf); refine inAt_cur (c_l1Int ?_ [0, -1, 2147483646, 2147483647] ?_ (by decide) (by decide)) (by rfl) (by rfl) (by rfl) ?_) | refine exQ (?_, ?_) ?_ ?_ | exact trivial | (with_reducible rfl) | exact (rfl : (0 : Int) = ((0 : Nat) : Int)) | exact w64_nat arith | refine bcase_T (by first | with_reducible rfl | decide) ?_ | refine bcase_F (by first | with_reducible rfl | decide) ?_ | refine bcase_dec (fun _ => ?_) (fun _ => ?_) | refine bcase_not ?_ | refine bcase_intro (fun _ => ?_) (fun _ => ?_) | refine ⟨(by with_reducible rfl), ?_⟩ | refine ⟨congrArg vi ?_, ?_⟩ | refine ⟨congrArg vb ?_, ?_⟩ | refine ⟨rfl, ?_⟩ | refine ⟨(by kernel_rfl : drawOK _ = true), ?_⟩ | refine Or.inl ?_ | refine ⟨⟨congrArg (T.int _) ?_, rfl⟩, ?_⟩ | refine ⟨⟨congrArg T.bool ?_, rfl⟩, ?_⟩ | refine ⟨⟨rfl, Nat.le_of_ble_eq_true rfl⟩, ?_⟩ | refine ⟨⟨rfl, rfl⟩, ?_⟩ | refine ⟨⟨rfl, (by decide)⟩, ?_⟩ | refine ⟨⟨rfl, ?_⟩, ?_⟩ | refine ⟨Or.inr rfl, ?_⟩ | refine ⟨Or.inl rfl, ?_⟩ | refine ⟨⟨⟨rfl, rfl, rfl⟩, ?_⟩, ?_⟩ | refine ⟨_, _, rfl, row_get _ _ arith, rfl, ?_⟩ | refine ⟨Or.inr (by repeat (first | exact trivial | refine ⟨rfl, ?_⟩)), ?_⟩ | refine ⟨(?_ : _ = ([] : List (List T))), ?_⟩ | fail))
  all_goals (show Cu.ok _; repeat (first | assumption | refine beN_ok ?_))
structure FC where
  a1 : Int
  a2 : Int
  a3 : Int
  a4 : Int
  s : List (List T)
  a5 : Int
  i : List (List T)
  a6 : Int
  c : Cu
def FC.r (x : FC) : List RC := [.s (I x.a1), .s (I x.a2), .s (I x.a3), .s (I x.a4), .l 1 x.s, .s (I x.a5), .l 1 x.i, .s (I x.a6)]
structure FC.ok (x : FC) : Prop where
  s : rowsB 16 x.s
  i : rowsB 17 x.i
  c : x.c.ok
theorem e_l29Any (c : Cu) (h : c.ok) : CurE Tryz.prog 108 (Cu.e c) [] FC (fun x => Cu.e x.c) (fun x => [.agg x.r]) FC.ok := by
  refine curE_of Tryz.func108 rfl (by kernel_rfl) rfl ?_
  all_goals repeat' (first | (with_reducible rfl) | ((conv => whnf); first | (show Cu.ok _; repeat (first | assumption | refine beN_ok ?_ | refine cuI_ok ?_ _)) | (refine Or.inr ⟨rfl, Or.inl ?_⟩; (conv => whnf); refine inAt_curK ?_ (e_l29Client ?_ ?_) (by rfl) (by rfl) (by rfl); rintro  ⟨x, c1⟩ ⟨⟨hx, hx0⟩, hc1⟩) | (refine Or.inr ⟨rfl, Or.inl ?_⟩; (conv => whnf); refine inAt_cur (c_l1Below ?_ ?_ ?_) (by rfl) (by rfl) (by rfl) ?_) | (refine Or.inr ⟨rfl, Or.inl ?_⟩; (conv => whnf); refine inAt_cur (c_l1Once ?_ ?_ ?_) (by rfl) (by rfl) (by rfl) ?_) | (refine Or.inr ⟨rfl, Or.inl ?_⟩; (conv => whnf); refine inAt_cur (c_l1BytesG ?_ ?_ ?_ ?_) (by rfl) (by rfl) (by rfl) ?_) | refine be_small (by decide) (by decide) | (refine Or.inr ⟨rfl, Or.inl ?_⟩; (conv => whnf); refine inAt_curK ?_ (e_l13Key ?_ ?_) (by rfl) (by rfl) (by rfl); rintro ⟨k, c2⟩ hc2) | (refine Or.inr ⟨rfl, Or.inl ?_⟩; (conv => whnf); refine inAt_cur (c_l1Int ?_ [-1, 7, 8, x.Friend] ?_ (by show 0 < 4; decide) (by show 4 ≤ 1099511627776; decide)) (by rfl) (by rfl) (by rfl) ?_) | (refine Or.inr ⟨rfl, Or.inl ?_⟩; (conv => whnf); refine inAt_cur (c_l1Int ?_ [-1, ((x.Submitted.map (eL eU)).length : Int), IntKind.i64.wrap (((x.Submitted.map (eL eU)).length : Int) + 1)] ?_ (by show 0 < 3; decide) (by show 3 ≤ 1099511627776; decide)) (by rfl) (by rfl) (by rfl) ?_) | (refine Or.inr ⟨rfl, Or.inl ?_⟩; (conv => whnf); refine inAt_cur (c_l1Int ?_ [-1, 99999, 100000, 100001] ?_ (by decide) (by decide)) (by rfl) (by rfl) (by rfl) ?_) | refine Or.inr ⟨(by kernel_rfl), 0, ⟨_, rfl⟩, ?_⟩ | (refine Or.inl ?_; (conv => whnf); first | refine cur_ex (c_l1Below ?_ ?_ ?_) (by rfl) (by rfl) ?_ | refine cur_ex (c_l1BytesG ?_ ?_ ?_ ?_) (by rfl) (by rfl) ?_) | refine ⟨_, ⟨mk_eq (mk_bnd (by decide) (by decide)).1, mk_eq (mk_bnd (by decide) (by decide)).1⟩, mk_bytes (Nat.le_trans (mk_bnd (by decide) (by decide)).2 (by decide)) (by decide), ?_⟩ | (have h8 := hx.inb.1; refine ⟨⟨bnd, bnd⟩, ?_⟩) | refine exQ ⟨?_, ?_, ?_, ?_, ?_, ?_, ?_, ?_, ?_⟩ ?_ ?_ | exact trivial | (with_reducible rfl) | exact (rfl : (0 : Int) = ((0 : Nat) : Int)) | exact w64_nat arith | refine bcase_T (by first | with_reducible rfl | decide) ?_ | refine bcase_F (by first | with_reducible rfl | decide) ?_ | refine bcase_dec (fun _ => ?_) (fun _ => ?_) | refine bcase_not ?_ | refine bcase_intro (fun _ => ?_) (fun _ => ?_) | refine ⟨(by with_reducible rfl), ?_⟩ | refine ⟨congrArg vi ?_, ?_⟩ | refine ⟨congrArg vb ?_, ?_⟩ | refine ⟨rfl, ?_⟩ | refine ⟨(by kernel_rfl : drawOK _ = true), ?_⟩ | refine Or.inl ?_ | refine ⟨⟨congrArg (T.int _) ?_, rfl⟩, ?_⟩ | refine ⟨⟨congrArg T.bool ?_, rfl⟩, ?_⟩ | refine ⟨⟨rfl, Nat.le_of_ble_eq_true rfl⟩, ?_⟩ | refine ⟨⟨rfl, rfl⟩, ?_⟩ | refine ⟨⟨rfl, (by decide)⟩, ?_⟩ | refine ⟨⟨rfl, ?_⟩, ?_⟩ | refine ⟨Or.inr rfl, ?_⟩ | refine ⟨Or.inl rfl, ?_⟩ | refine ⟨⟨⟨rfl, rfl, rfl⟩, ?_⟩, ?_⟩ | refine ⟨_, _, rfl, row_get _ _ arith, rfl, ?_⟩ | refine ⟨Or.inr (by repeat (first | exact trivial | refine ⟨rfl, ?_⟩)), ?_⟩ | refine ⟨(?_ : _ = ([] : List (List T))), ?_⟩ | fail))
  all_goals refine ⟨rowsB.of hx.sub (by decide), ?_, ?_⟩
  all_goals first
    | (show Cu.ok _; repeat (first | assumption | refine beN_ok ?_))
    | exact rowsB.of hx.inb (by decide)
    | exact rowsB.zero (mk_bnd (by decide) (by decide)).2
    | exact rowsB.add (x := List.replicate (IntKind.i64.wrap (14 + beV (beN c1 14) 2)).toNat 0) hx.inb (by decide) (by rw [List.length_replicate]; exact Nat.le_trans (mk_bnd (c := beN c1 14) (k := 14) (by decide) (by decide)).2 (by decide)) (by show [[T.lst (List.replicate _ [T.int .u8 0])]] = [[T.lst ((List.replicate _ (0 : UInt8)).map eU)]]; rw [List.map_replicate]; rfl)
    | trace_state
def rowsU (n : Nat) (rows : List (List T)) : Prop := ∃ l : List UInt8, rows = l.map eU ∧ l.length ≤ n
theorem rowsU.set {n j : Nat} {d : List UInt8} {v : Int} (h : d.length ≤ n) : rowsU n ((d.map eU).set j [T.int .u8 (IntKind.u8.wrap v)]) :=
  ⟨d.set j (Vm.byteOf v), by rw [u8_wrap, List.map_set]; rfl, by simpa using h⟩
theorem rowsU.cut {n k : Nat} {d : List UInt8} (h : d.length ≤ n) : rowsU n (((d.map eU).take k).drop 0) :=
  ⟨d.take k, by rw [List.drop_zero, List.map_take], by rw [List.length_take]; omega⟩
theorem rowsU.add {n : Nat} {d : List UInt8} {v : Int} (h : d.length + 1 ≤ n) : rowsU n (d.map eU ++ [[T.int .u8 (IntKind.u8.wrap v)]]) :=
  ⟨d ++ [Vm.byteOf v], by rw [u8_wrap, List.map_append]; rfl, by simpa using h⟩
theorem bent_j {c : Cu} {n : Nat} (h : 0 < (n : Int)) : 0 ≤ beV c n ∧ (beV c n).toNat < n := by
  have := beV_lt (c := c) h
  omega
theorem bent_jm {c : Cu} {d : List UInt8} (h : 0 < ((d.map eU).length : Int)) : (beV c (d.map eU).length).toNat < d.length := by
  have h1 := (bent_j (c := c) h).2
  rw [List.length_map] at h1 ⊢
  exact h1
theorem bent_k {c : Cu} {n : Nat} (h : n ≤ 1024) : 0 ≤ beV c (IntKind.i64.wrap ((n : Int) + 1)) ∧ (beV c (IntKind.i64.wrap ((n : Int) + 1))).toNat ≤ n := by
  rw [w64_ok (by omega) (by omega)]
  have := beV_lt (c := c) (n := (n : Int) + 1) (by omega)
  omega
def rcU (n : Nat) (r : RC) : Prop := (∃ l : List UInt8, r = .l 1 (l.map eU) ∧ l.length ≤ n) ∨ r = .s (L eU [])
theorem rcU.of {n : Nat} {rows : List (List T)} (h : rowsU n rows) : rcU n (.l 1 rows) := by
  obtain ⟨l, e, hl⟩ := h
  exact Or.inl ⟨l, by rw [e], hl⟩
theorem rcU.nil {n : Nat} : rcU n (.s (L eU [])) := Or.inr rfl
attribute [local irreducible] rcU
end Go.Proofs.YteecgbgdmfjogaaGreat

namespace Go.Proofs.YteecgbgdmfjogaaGreat
set_option maxHeartbeats 4000000
set_option maxRecDepth 20000
open Go.Vm Go.RowKit
attribute [local irreducible] FnAt MutAt InAt JAt CurAt FnE CurE RegAt
attribute [local irreducible] beN cuI cuN beV byV newClient queueC IntKind.wrap
theorem cinv.queue2 {m : Nat} {x : DClient} {b : List UInt8} (h : cinv 16 m x) (hq : queued x b = true) (hb : b.length ≤ 64) : cinv 16 m (Go.Proofs.YteecgbgdmfjogaaGreat.queue x b) := by
  have h1 := cinv.queue h hb
  unfold queueC at h1
  rwa [if_pos hq] at h1
theorem cinv.readB {m : Nat} {x : DClient} (r : Int) (own other : List UInt8) (h : cinv 16 m x) (hm : 16 ≤ m) : cinv 16 m (readC x r own other) := by
  unfold readC
  split
  · refine ⟨h.sub, ?_, ?_⟩
    · show (readInbox x other).length ≤ m
      unfold readInbox
      split
      · next e =>
        simp only [readTake, Bool.and_eq_true, decide_eq_true_eq] at e
        simp only [List.length_append, List.length_cons, List.length_nil]
        omega
      · exact h.inb.1
    · show ∀ y ∈ readInbox x other, y.length ≤ 64
      unfold readInbox
      split
      · intro y hy
        rcases List.mem_append.1 hy with hy | hy
        · exact h.inb.2 y hy
        · rw [List.mem_singleton.1 hy]; have := readOpen_len x other; omega
      · exact h.inb.2
  · exact h
theorem readC_sent {x : DClient} (r : Int) (own other : List UInt8) (h : 0 ≤ x.Sent) : 0 ≤ (readC x r own other).Sent := by
  unfold readC
  split
  · show 0 ≤ readSent x own
    unfold readSent
    split
    · split <;> omega
    · exact h
  · exact h
theorem sealCell_le (k c : Int) (p : DPlain) : (sealCell k c p).length ≤ 64 := by
  unfold sealCell
  split
  · next h =>
    simp only [sealOk, plainOk, Bool.and_eq_true, decide_eq_true_eq] at h
    have h1 := sealPlain_len (khash k [61, c]) p
    have h2 := h.2.2
    have h4 := encB_len (cellKey k c) (sealPlain (khash k [61, c]) p)
    rw [List.length_append, bytes4_len, sealData, h4]
    omega
  · exact Nat.zero_le _
theorem msgCell_le {x : DClient} (h : x.Sent.toNat < x.Submitted.length) : (msgCell x h).length ≤ 64 := by
  unfold msgCell; exact sealCell_le _ _ _
theorem cell_h {x : DClient} (h : x.Sent < ((x.Submitted.map (eL eU)).length : Int)) (h0 : 0 ≤ x.Sent) : x.Sent.toNat < x.Submitted.length := by
  rw [List.length_map] at h; omega
theorem cinv.cell {n m : Nat} {x : DClient} (h : cinv n m x) (hc : x.Sent.toNat < x.Submitted.length) : (x.Submitted[x.Sent.toNat]).length ≤ 1048576 := by
  have := h.sub.2 _ (List.getElem_mem hc); omega
theorem byV_le {c c' : Cu} {n : Int} (h : 0 < n) (h2 : n ≤ 64) : (byV c (beV c' n).toNat).length ≤ 64 := by
  have := beV_lt (c := c') h
  rw [byV_len]; omega
theorem byV_leK {c : Cu} {n : Nat} (h2 : n ≤ 64) : (byV c n).length ≤ 64 := by rw [byV_len]; omega
attribute [local irreducible] sealCell msgCell dirKey nwC rcU
theorem nwC_okD {b : List UInt8} (h : b.length ≤ 1048576) : (nwC b).ok := by unfold nwC; exact ⟨h, Nat.zero_le _⟩
theorem curE_map {P : Program} {f : FuncId} {cs : List T} {xs : List V} {X Y : Type} {cs' : X → List T} {rs : X → List RV} {Q : X → Prop} {cs2 : Y → List T} {rs2 : Y → List RV} {Q2 : Y → Prop}
    (h : CurE P f cs xs X cs' rs Q) (hm : ∀ x, Q x → ∃ y, Q2 y ∧ cs' x = cs2 y ∧ rs x = rs2 y) : CurE P f cs xs Y cs2 rs2 Q2 := by
  unfold CurE at h ⊢
  refine ⟨h.1, fun w g us e F vs h1 h2 h3 h4 => (h.2 w g us e F vs h1 h2 h3 h4).mono ?_⟩
  rintro ex w' ⟨x, hq, hp⟩
  obtain ⟨y, hy, e1, e2⟩ := hm x hq
  rw [e1, e2] at hp
  exact ⟨y, hy, hp⟩
theorem rcU.cases {n : Nat} {r : RC} (h : rcU n r) : (∃ l : List UInt8, r = .l 1 (l.map eU) ∧ l.length ≤ n) ∨ r = .s (L eU []) := by
  unfold rcU at h; exact h
theorem rcU.rows {n : Nat} {l : List UInt8} (h : l.length ≤ n) : rcU n (.l 1 (l.map eU)) := rcU.of ⟨l, rfl, h⟩
theorem rcU.up {n m : Nat} {r : RC} (h : rcU n r) (hm : n ≤ m) : rcU m r := by
  rcases h.cases with ⟨l, rfl, hl⟩ | rfl
  · exact rcU.rows (Nat.le_trans hl hm)
  · exact rcU.nil
theorem FC.ok.to {x : FC} (h : x.ok) : ∃ y : DClient × Cu, (cinv 16 17 y.1 ∧ y.2.ok) ∧ Cu.e x.c = Cu.e y.2 ∧ [RV.agg x.r] = [RV.agg (DClient.r y.1)] := by
  obtain ⟨⟨l, e1, h1, h2⟩, ⟨m, e2, h3, h4⟩, h5⟩ := h
  exact ⟨(⟨x.a1, x.a2, x.a3, x.a4, l, x.a5, m, x.a6⟩, x.c), ⟨⟨⟨h1, h2⟩, ⟨h3, h4⟩⟩, h5⟩, rfl, by unfold FC.r; rw [e1, e2]; rfl⟩
theorem e_l29AnyC (c : Cu) (h : c.ok) : CurE Tryz.prog 108 (Cu.e c) [] (DClient × Cu) (fun x => Cu.e x.2) (fun x => [.agg (DClient.r x.1)]) (fun x => cinv 16 17 x.1 ∧ x.2.ok) :=
  curE_map (e_l29Any c h) fun _ hx => hx.to
theorem cell_in {x : DClient} (h : inR x.Sent 0 (IntKind.i64.wrap (((x.Submitted.map (eL eU)).length : Int) - 1)) = true) (hl : x.Submitted.length ≤ 16) : 0 ≤ x.Sent ∧ x.Sent.toNat < x.Submitted.length := by
  rw [List.length_map, w64_ok (by omega) (by omega)] at h
  have := inR_iff.1 h
  omega
structure FR where
  x : DClient
  r : Int
  own : List UInt8
  oth : RC
structure FR.ok (z : FR) : Prop where
  x : cinv 16 17 z.x
  own : z.own.length ≤ 64
  oth : rcU 65 z.oth
end Go.Proofs.YteecgbgdmfjogaaGreat

namespace Go.Proofs.YteecgbgdmfjogaaGreat
set_option maxHeartbeats 4000000
set_option maxRecDepth 20000
open Go.Vm Go.RowKit
attribute [local irreducible] FnAt MutAt InAt JAt CurAt FnE CurE RegAt
attribute [local irreducible] beN cuI cuN beV byV newClient queueC IntKind.wrap
structure dsiz (d : DDevice) : Prop where
  l : cinv 16 17 d.Live
  s : cinv 16 17 d.Saved
structure dinv (d : DDevice) : Prop where
  z : dsiz d
  l0 : 0 ≤ d.Live.Sent
  s0 : 0 ≤ d.Saved.Sent
theorem dsiz.big {d : DDevice} (h : dsiz d) : bigD d := ⟨h.l.big (by decide) (by decide), h.s.big (by decide) (by decide)⟩
theorem dinv.new {x : DClient} (h : cinv 16 2 x ∧ 0 ≤ x.Sent) : dinv ⟨x, x⟩ :=
  ⟨⟨h.1.mono (Nat.le_refl _) (by decide), h.1.mono (Nat.le_refl _) (by decide)⟩, h.2, h.2⟩
theorem dinv.crash {d : DDevice} (h : dinv d) : dinv (crashD d) := by
  unfold crashD
  split
  · exact ⟨⟨h.z.s, h.z.s⟩, h.s0, h.s0⟩
  · exact h
theorem dinv.submit {d : DDevice} {b : List UInt8} (h : dinv d) (hb : b.length ≤ 64) : dinv (submitD d b) := by
  unfold submitD
  split
  · next e =>
    unfold submitOk at e
    simp only [Bool.and_eq_true] at e
    exact ⟨⟨h.z.l.queue2 e.1.2 hb, h.z.s.queue2 e.2 hb⟩, h.l0, h.s0⟩
  · exact h
theorem dinv.read {d : DDevice} {r : Int} {own other : List UInt8} (h : dinv d) : dinv (readD d r own other) := by
  have h1 : dinv ⟨readC d.Live r own other, d.Saved⟩ := ⟨⟨h.z.l.readB r own other (by decide), h.z.s⟩, readC_sent r own other h.l0, h.s0⟩
  unfold readD
  split
  · split
    · unfold saveD
      split
      · exact ⟨⟨h1.z.l, h1.z.l⟩, h1.l0, h1.l0⟩
      · exact h1
    · exact h1
  · exact h
attribute [local irreducible] crashD submitD readD readDOk submitOk sealCell msgCell dirKey
structure LD where
  n : Int
  d : DDevice
  c : Cu
structure LDok (s : LD) : Prop where
  ok : s.c.ok
  n : 0 ≤ s.n ∧ s.n ≤ 5
  d : dinv s.d
def stD (s : LD) : St := ⟨[(0, .pin (.ptr 0 0)), (2, .ptr 1 0), (3, .ptr 2 0), (4, vi s.n)], [(0, .box [.anc (L eU s.c.b), .t (I s.c.i), .t (I s.c.h)]), (1, .box [.t (I 0), .t (I 0), .t (I 0), .t (I 0), .nil, .t (I 0), .nil, .t (I 0), .t (I 0), .t (I 0), .t (I 0), .t (I 0), .nil, .t (I 0), .nil, .t (I 0)]), (2, .box [.t (I s.d.Live.Id), .t (I s.d.Live.Friend), .t (I s.d.Live.Key), .t (I s.d.Live.Seed), .ref 3, .t (I s.d.Live.Sent), .ref 4, .t (I s.d.Live.Next), .t (I s.d.Saved.Id), .t (I s.d.Saved.Friend), .t (I s.d.Saved.Key), .t (I s.d.Saved.Seed), .ref 5, .t (I s.d.Saved.Sent), .ref 6, .t (I s.d.Saved.Next)]), (3, .row true true 1 (s.d.Live.Submitted.map (eL eU))), (4, .row true true 1 (s.d.Live.Inbox.map (eL eU))), (5, .row true true 1 (s.d.Saved.Submitted.map (eL eU))), (6, .row true true 1 (s.d.Saved.Inbox.map (eL eU)))], 7⟩
theorem LDok.start {x : DClient} {c c' : Cu} (h : cinv 16 2 x ∧ 0 ≤ x.Sent) (hc : c'.ok) : LDok ⟨beV c 5, ⟨x, x⟩, c'⟩ := by
  have h2 := beV_lt (c := c) (n := 5) (by omega)
  exact ⟨hc, by show 0 ≤ beV c 5 ∧ beV c 5 ≤ 5; omega, dinv.new h⟩
theorem LDok.next {s : LD} (h : LDok s) (hn : 0 < s.n) {d : DDevice} {c : Cu} (hd : dinv d) (hc : c.ok) : LDok ⟨IntKind.i64.wrap (s.n - 1), d, c⟩ ∧ (IntKind.i64.wrap (s.n - 1)).toNat < s.n.toNat := by
  have h1 := h.n
  rw [w64_ok (by omega) (by omega)]
  exact ⟨⟨hc, by show 0 ≤ s.n - 1 ∧ s.n - 1 ≤ 5; omega, hd⟩, by omega⟩
theorem e_l30Device (c : Cu) (h : c.ok) : CurE Tryz.prog 107 (Cu.e c) [] (DDevice × Cu) (fun x => Cu.e x.2) (fun x => [.agg (DDevice.r x.1)]) (fun x => dinv x.1 ∧ x.2.ok) := by
  refine curE_of Tryz.func107 rfl (by kernel_rfl) rfl ?_
  all_goals repeat' (first | (with_reducible rfl) | ((conv => whnf); first | (show Cu.ok _; repeat (first | assumption | refine beN_ok ?_ | refine cuI_ok ?_ _)) | (refine Or.inr ⟨rfl, Or.inl ?_⟩; (conv => whnf); refine inAt_cur (c_l1Below ?_ ?_ ?_) (by rfl) (by rfl) (by rfl) ?_) | (refine Or.inr ⟨rfl, Or.inl ?_⟩; (conv => whnf); refine inAt_cur (c_l1Once ?_ ?_ ?_) (by rfl) (by rfl) (by rfl) ?_) | (refine Or.inr ⟨rfl, Or.inl ?_⟩; (conv => whnf); refine inAt_cur (c_l1BytesG ?_ ?_ ?_ ?_) (by rfl) (by rfl) (by rfl) ?_) | refine be_small (by decide) (by decide) | (refine Or.inr ⟨rfl, Or.inl ?_⟩; (conv => whnf); refine inAt_curK ?_ (e_l29Client ?_ ?_) (by rfl) (by rfl) (by rfl); rintro ⟨x, c1⟩ ⟨hx, hc1⟩) | refine ⟨_, c_sNewDevice _ (hx.1.big (by decide) (by decide)), ?_⟩ | exact trivial | (with_reducible rfl) | exact (rfl : (0 : Int) = ((0 : Nat) : Int)) | exact w64_nat arith | refine bcase_T (by first | with_reducible rfl | decide) ?_ | refine bcase_F (by first | with_reducible rfl | decide) ?_ | refine bcase_dec (fun _ => ?_) (fun _ => ?_) | refine bcase_not ?_ | refine bcase_intro (fun _ => ?_) (fun _ => ?_) | refine ⟨(by with_reducible rfl), ?_⟩ | refine ⟨congrArg vi ?_, ?_⟩ | refine ⟨congrArg vb ?_, ?_⟩ | refine ⟨rfl, ?_⟩ | refine ⟨(by kernel_rfl : drawOK _ = true), ?_⟩ | refine Or.inl ?_ | refine ⟨⟨congrArg (T.int _) ?_, rfl⟩, ?_⟩ | refine ⟨⟨congrArg T.bool ?_, rfl⟩, ?_⟩ | refine ⟨⟨rfl, Nat.le_of_ble_eq_true rfl⟩, ?_⟩ | refine ⟨⟨rfl, rfl⟩, ?_⟩ | refine ⟨⟨rfl, (by decide)⟩, ?_⟩ | refine ⟨⟨rfl, ?_⟩, ?_⟩ | refine ⟨Or.inr rfl, ?_⟩ | refine ⟨Or.inl rfl, ?_⟩ | refine ⟨⟨⟨rfl, rfl, rfl⟩, ?_⟩, ?_⟩ | refine ⟨_, _, rfl, row_get _ _ arith, rfl, ?_⟩ | refine ⟨Or.inr (by repeat (first | exact trivial | refine ⟨rfl, ?_⟩)), ?_⟩ | refine ⟨(?_ : _ = ([] : List (List T))), ?_⟩ | fail))
  all_goals (conv => whnf)
  all_goals refine ⟨LD, LDok, stD, fun s => s.n.toNat, ⟨?_, ⟨x, x⟩, ?_⟩, ?_, sub_at2 [(0, 0, 0), (1, 2, 0), (2, 3, 0), (3, 3, 5), (4, 3, 7), (5, 3, 13), (6, 3, 15)] rfl rfl rfl ?_ ?_, fun s hs => ?_⟩
  all_goals repeat' (first | (with_reducible rfl) | ((conv => whnf); first | refine ⟨Or.inl (by rfl), ?_⟩ | (have hk := hs.ok; (show Cu.ok _; repeat (first | assumption | refine beN_ok ?_ | refine cuI_ok ?_ _))) | refine Or.inr ⟨(by kernel_rfl), 0, ⟨_, rfl⟩, ?_⟩ | (refine Or.inl ?_; (conv => whnf); first | refine cur_ex (c_l1Below ?_ ?_ ?_) (by rfl) (by rfl) ?_ | refine cur_ex (c_l1BytesG ?_ ?_ ?_ ?_) (by rfl) (by rfl) ?_) | (refine Or.inr (?_ : hidO _ _ _ _ _ _ _); (conv => whnf); refine Or.inl ?_; (conv => whnf); refine ⟨_, c_l29Direction _, ?_⟩) | (refine Or.inr (?_ : hidO _ _ _ _ _ _ _); (conv => whnf); refine Or.inl ?_; (conv => whnf); refine ⟨_, c_sDirectionKey _ _, ?_⟩) | (refine Or.inr (?_ : hidO _ _ _ _ _ _ _); (conv => whnf); refine Or.inl ?_; (conv => whnf); refine ⟨_, c_sSealCell _ _ ⟨1, byV _ _⟩ (by show (byV _ (beV _ 3).toNat).length ≤ 1048576; exact Nat.le_trans (byV_le (by decide) (by decide)) (by decide)), ?_⟩) | (refine Or.inr (?_ : hidO _ _ _ _ _ _ _); (conv => whnf); refine Or.inl ?_; (conv => whnf); refine ⟨_, c_sSubmitToDevice s.d _ hs.d.z.big (by have := hs.d.z.l.sub.1; omega) (by have := hs.d.z.s.sub.1; omega) (by rw [byV_len]; decide), ?_⟩) | (refine Or.inr (?_ : hidO _ _ _ _ _ _ _); (conv => whnf); refine Or.inl ?_; (conv => whnf); refine ⟨_, c_sReadOnDevice s.d _ _ _ hs.d.z.big ?_ ?_, ?_⟩) | (refine Or.inr ⟨rfl, Or.inl ?_⟩; (conv => whnf); refine inAt_cur (c_l1Below ?_ ?_ ?_) (by rfl) (by rfl) (by rfl) ?_) | (refine Or.inr ⟨rfl, Or.inl ?_⟩; (conv => whnf); refine inAt_cur (c_l1Once ?_ ?_ ?_) (by rfl) (by rfl) (by rfl) ?_) | (refine Or.inr ⟨rfl, Or.inl ?_⟩; (conv => whnf); refine inAt_cur (c_l1BytesG ?_ ?_ ?_ ?_) (by rfl) (by rfl) (by rfl) ?_) | refine be_small (by decide) (by decide) | refine ⟨_, c_l29Cell s.d.Live hs.d.l0 (cell_h (by assumption) hs.d.l0) (hs.d.z.l.big (by decide) (by decide)) (hs.d.z.l.cell _), ?_⟩ | refine ⟨_, c_sCrashDevice s.d hs.d.z.big, ?_⟩ | refine ⟨⟨?_, ?_, ?_⟩, ?_, sub_at2 [(0, 0, 0), (1, 2, 0), (2, 3, 0), (3, 3, 5), (4, 3, 7), (5, 3, 13), (6, 3, 15)] rfl rfl rfl ?_ ?_⟩ | refine ⟨(s.d, s.c), ?_, ?_⟩ | exact trivial | (with_reducible rfl) | exact (rfl : (0 : Int) = ((0 : Nat) : Int)) | exact w64_nat arith | refine bcase_T (by first | with_reducible rfl | decide) ?_ | refine bcase_F (by first | with_reducible rfl | decide) ?_ | refine bcase_dec (fun _ => ?_) (fun _ => ?_) | refine bcase_not ?_ | refine bcase_intro (fun _ => ?_) (fun _ => ?_) | refine ⟨(by with_reducible rfl), ?_⟩ | refine ⟨congrArg vi ?_, ?_⟩ | refine ⟨congrArg vb ?_, ?_⟩ | refine ⟨rfl, ?_⟩ | refine ⟨(by kernel_rfl : drawOK _ = true), ?_⟩ | refine Or.inl ?_ | refine ⟨⟨congrArg (T.int _) ?_, rfl⟩, ?_⟩ | refine ⟨⟨congrArg T.bool ?_, rfl⟩, ?_⟩ | refine ⟨⟨rfl, Nat.le_of_ble_eq_true rfl⟩, ?_⟩ | refine ⟨⟨rfl, rfl⟩, ?_⟩ | refine ⟨⟨rfl, (by decide)⟩, ?_⟩ | refine ⟨⟨rfl, ?_⟩, ?_⟩ | refine ⟨Or.inr rfl, ?_⟩ | refine ⟨Or.inl rfl, ?_⟩ | refine ⟨⟨⟨rfl, rfl, rfl⟩, ?_⟩, ?_⟩ | refine ⟨_, _, rfl, row_get _ _ arith, rfl, ?_⟩ | refine ⟨Or.inr (by repeat (first | exact trivial | refine ⟨rfl, ?_⟩)), ?_⟩ | refine ⟨(?_ : _ = ([] : List (List T))), ?_⟩ | fail))
  all_goals first
    | exact ⟨by decide, by decide⟩
    | exact LDok.start hx (by show Cu.ok _; repeat (first | assumption | refine beN_ok ?_ | refine cuI_ok ?_ _))
    | (refine LDok.next hs (by assumption) ?_ (by have hk := hs.ok; show Cu.ok _; repeat (first | assumption | refine beN_ok ?_ | refine cuI_ok ?_ _)); first | exact hs.d.crash | exact hs.d.submit (byV_leK (by decide)) | exact hs.d.read)
    | exact ⟨hs.d, hs.ok⟩
    | exact Nat.le_trans (msgCell_le _) (by decide)
    | exact Nat.le_trans (sealCell_le _ _ _) (by decide)
    | exact Nat.le_trans (byV_leK (by decide)) (by decide : 64 ≤ 1099511627776)
    | trace_state
end Go.Proofs.YteecgbgdmfjogaaGreat

namespace Go.Proofs.YteecgbgdmfjogaaGreat
set_option maxHeartbeats 4000000
set_option maxRecDepth 20000
open Go.Vm Go.RowKit
attribute [local irreducible] FnAt MutAt InAt JAt CurAt FnE CurE RegAt
attribute [local irreducible] beN cuI cuN beV byV newClient queueC IntKind.wrap crashD submitD readD readDOk submitOk sealCell msgCell dirKey nwC rcU
structure dsz (d : DDevice) : Prop where
  l : cinv 16 17 d.Live
  s : cinv 16 18 d.Saved
theorem dsz.big {d : DDevice} (h : dsz d) : bigD d := ⟨h.l.big (by decide) (by decide), h.s.big (by decide) (by decide)⟩
structure FD where
  L : DClient
  a1 : Int
  a2 : Int
  a3 : Int
  a4 : Int
  s : List (List T)
  a5 : Int
  i : List (List T)
  a6 : Int
  c : Cu
def FD.r (x : FD) : List RC := [.s (I x.L.Id), .s (I x.L.Friend), .s (I x.L.Key), .s (I x.L.Seed), .l 1 (x.L.Submitted.map (eL eU)), .s (I x.L.Sent), .l 1 (x.L.Inbox.map (eL eU)), .s (I x.L.Next), .s (I x.a1), .s (I x.a2), .s (I x.a3), .s (I x.a4), .l 1 x.s, .s (I x.a5), .l 1 x.i, .s (I x.a6)]
structure FD.ok (x : FD) : Prop where
  L : cinv 16 17 x.L
  s : rowsB 16 x.s
  i : rowsB 18 x.i
  c : x.c.ok
theorem FD.ok.to {x : FD} (h : x.ok) : ∃ y : DDevice × Cu, (dsz y.1 ∧ y.2.ok) ∧ Cu.e x.c = Cu.e y.2 ∧ [RV.agg x.r] = [RV.agg (DDevice.r y.1)] := by
  obtain ⟨hL, ⟨l, e1, h1, h2⟩, ⟨m, e2, h3, h4⟩, h5⟩ := h
  exact ⟨(⟨x.L, ⟨x.a1, x.a2, x.a3, x.a4, l, x.a5, m, x.a6⟩⟩, x.c), ⟨⟨hL, ⟨⟨h1, h2⟩, ⟨h3, h4⟩⟩⟩, h5⟩, rfl, by unfold FD.r; rw [e1, e2]; rfl⟩
theorem e_l30Any0 (c : Cu) (h : c.ok) : CurE Tryz.prog 78 (Cu.e c) [] FD (fun x => Cu.e x.c) (fun x => [.agg x.r]) FD.ok := by
  refine curE_of Tryz.func78 rfl (by kernel_rfl) rfl ?_
  all_goals repeat' (first | (with_reducible rfl) | ((conv => whnf); first | (show Cu.ok _; repeat (first | assumption | refine beN_ok ?_ | refine cuI_ok ?_ _)) | (refine Or.inr ⟨rfl, Or.inl ?_⟩; (conv => whnf); refine inAt_curK ?_ (e_l30Device ?_ ?_) (by rfl) (by rfl) (by rfl); rintro ⟨x, c1⟩ ⟨hx, hc1⟩) | (refine Or.inr ⟨rfl, Or.inl ?_⟩; (conv => whnf); refine inAt_curK ?_ (e_l29AnyC ?_ ?_) (by rfl) (by rfl) (by rfl); rintro ⟨y, c2⟩ ⟨hy, hc2⟩) | (refine Or.inr ⟨rfl, Or.inl ?_⟩; (conv => whnf); refine inAt_cur (c_l1Below ?_ ?_ ?_) (by rfl) (by rfl) (by rfl) ?_) | (refine Or.inr ⟨rfl, Or.inl ?_⟩; (conv => whnf); refine inAt_cur (c_l1Once ?_ ?_ ?_) (by rfl) (by rfl) (by rfl) ?_) | (refine Or.inr ⟨rfl, Or.inl ?_⟩; (conv => whnf); refine inAt_cur (c_l1BytesG ?_ ?_ ?_ ?_) (by rfl) (by rfl) (by rfl) ?_) | refine be_small (by decide) (by decide) | refine Or.inr ⟨(by kernel_rfl), 0, ⟨_, rfl⟩, ?_⟩ | (refine Or.inl ?_; (conv => whnf); first | refine cur_ex (c_l1Below ?_ ?_ ?_) (by rfl) (by rfl) ?_ | refine cur_ex (c_l1BytesG ?_ ?_ ?_ ?_) (by rfl) (by rfl) ?_) | (have h8 := hx.z.s.inb.1; refine ⟨⟨bnd, bnd⟩, ?_⟩) | refine exQ ⟨?_, ?_, ?_, ?_, ?_, ?_, ?_, ?_, ?_, ?_⟩ ?_ ?_ | exact trivial | (with_reducible rfl) | exact (rfl : (0 : Int) = ((0 : Nat) : Int)) | exact w64_nat arith | refine bcase_T (by first | with_reducible rfl | decide) ?_ | refine bcase_F (by first | with_reducible rfl | decide) ?_ | refine bcase_dec (fun _ => ?_) (fun _ => ?_) | refine bcase_not ?_ | refine bcase_intro (fun _ => ?_) (fun _ => ?_) | refine ⟨(by with_reducible rfl), ?_⟩ | refine ⟨congrArg vi ?_, ?_⟩ | refine ⟨congrArg vb ?_, ?_⟩ | refine ⟨rfl, ?_⟩ | refine ⟨(by kernel_rfl : drawOK _ = true), ?_⟩ | refine Or.inl ?_ | refine ⟨⟨congrArg (T.int _) ?_, rfl⟩, ?_⟩ | refine ⟨⟨congrArg T.bool ?_, rfl⟩, ?_⟩ | refine ⟨⟨rfl, Nat.le_of_ble_eq_true rfl⟩, ?_⟩ | refine ⟨⟨rfl, rfl⟩, ?_⟩ | refine ⟨⟨rfl, (by decide)⟩, ?_⟩ | refine ⟨⟨rfl, ?_⟩, ?_⟩ | refine ⟨Or.inr rfl, ?_⟩ | refine ⟨Or.inl rfl, ?_⟩ | refine ⟨⟨⟨rfl, rfl, rfl⟩, ?_⟩, ?_⟩ | refine ⟨_, _, rfl, row_get _ _ arith, rfl, ?_⟩ | refine ⟨Or.inr (by repeat (first | exact trivial | refine ⟨rfl, ?_⟩)), ?_⟩ | refine ⟨(?_ : _ = ([] : List (List T))), ?_⟩ | fail))
  all_goals first
    | exact ⟨hy, rowsB.of hx.z.s.sub (by decide), rowsB.of hx.z.s.inb (by decide), hc2⟩
    | exact ⟨hx.z.l, rowsB.of hx.z.s.sub (by decide), rowsB.of hx.z.s.inb (by decide), by show Cu.ok _; repeat (first | assumption | refine beN_ok ?_)⟩
    | exact ⟨hx.z.l, rowsB.of hx.z.s.sub (by decide), rowsB.add (x := [1]) hx.z.s.inb (by decide) (by decide) rfl, by show Cu.ok _; repeat (first | assumption | refine beN_ok ?_)⟩
    | trace_state
theorem e_l30Any (c : Cu) (h : c.ok) : CurE Tryz.prog 78 (Cu.e c) [] (DDevice × Cu) (fun x => Cu.e x.2) (fun x => [.agg (DDevice.r x.1)]) (fun x => dsz x.1 ∧ x.2.ok) :=
  curE_map (e_l30Any0 c h) fun _ hx => hx.to
structure FO where
  d : DDevice
  r : Int
  own : List UInt8
  oth : RC
structure FO.ok (z : FO) : Prop where
  d : dsz z.d
  own : z.own.length ≤ 64
  oth : rcU 65 z.oth
end Go.Proofs.YteecgbgdmfjogaaGreat
