/-
  Contracts: what the cursor draws of clients and devices, known by its size.
  Conditions: none.
-/
import Derived.Test.YtdbgmncapignoaaFnDe
namespace Go.Proofs.Ytdbgmncapignoaa
set_option maxHeartbeats 4000000
set_option maxRecDepth 20000
open Go.Vm Go.RowKit
attribute [local irreducible] FnAt MutAt InAt JAt CurAt FnE CurE RegAt
attribute [local irreducible] beN cuI cuN beV byV newClient queueC IntKind.wrap
theorem exQ {X : Type} {Q R : X → Prop} (x : X) (h : R x) (hq : Q x) : ∃ x, Q x ∧ R x := ⟨x, hq, h⟩
def rowsB (n : Nat) (rows : List (List T)) : Prop := ∃ l : List (List UInt8), rows = l.map (eL eU) ∧ l.length ≤ n ∧ ∀ y ∈ l, y.length ≤ 64
theorem rowsB.of {n m : Nat} {l : List (List UInt8)} (h : l.length ≤ n ∧ ∀ y ∈ l, y.length ≤ 64) (hm : n ≤ m) : rowsB m (l.map (eL eU)) := ⟨l, rfl, Nat.le_trans h.1 hm, h.2⟩
theorem rowsB.add {n m : Nat} {l : List (List UInt8)} {x : List UInt8} {r : List (List T)} (h : l.length ≤ n ∧ ∀ y ∈ l, y.length ≤ 64) (hm : n + 1 ≤ m) (hx : x.length ≤ 64) (hr : r = [[L eU x]]) : rowsB m (l.map (eL eU) ++ r) := by
  refine ⟨l ++ [x], by rw [List.map_append, hr]; rfl, by simp only [List.length_append, List.length_cons, List.length_nil]; omega, fun y hy => ?_⟩
  rcases List.mem_append.1 hy with hy | hy
  · exact h.2 y hy
  · rw [List.mem_singleton.1 hy]; exact hx
theorem rowsB.zero {m n : Nat} (h : n ≤ m) : rowsB m (List.replicate n [T.lst []]) :=
  ⟨List.replicate n [], by rw [List.map_replicate]; rfl, by simpa using h, fun y hy => by rw [(List.mem_replicate.1 hy).2]; simp⟩
theorem mk_eq {n : Int} (h : 0 ≤ n) : n = ((n.toNat : Nat) : Int) := by omega
theorem mk_bnd {c : Cu} {k : Int} (h0 : 0 ≤ k) (h1 : k ≤ 16) : 0 ≤ IntKind.i64.wrap (k + beV c 2) ∧ (IntKind.i64.wrap (k + beV c 2)).toNat ≤ k.toNat + 1 := by
  have := beV_lt (c := c) (n := 2) (by decide)
  rw [w64_ok (by omega) (by omega)]; omega
theorem mk_bytes {m b : Nat} (h : m ≤ 64) (hb : b ≤ 64) : m * b ≤ 140737488355328 ∧ m ≤ 140737488355328 :=
  ⟨Nat.le_trans (Nat.mul_le_mul h hb) (by decide), by omega⟩
theorem e_l13Key (c : Cu) (h : c.ok) : CurE Try.prog 96 (Cu.e c) [] (Int × Cu) (fun x => Cu.e x.2) (fun x => [.one (.s (I x.1))]) (fun x => x.2.ok) := by
  refine curE_of Try.func96 rfl (by kernel_rfl) rfl ?_
  all_goals repeat' (first
    | (with_reducible rfl)
    | (conv => whnf
       first
         | (show Cu.ok _; repeat (first | assumption | refine beN_ok ?_ | refine cuI_ok ?_ _))
         | (refine Or.inr ⟨rfl, Or.inl ?_⟩; (conv => whnf); refine inAt_cur (c_l1Below ?_ ?_ ?_) (by rfl) (by rfl) (by rfl) ?_)
         | (refine Or.inr ⟨rfl, Or.inl ?_⟩; (conv => whnf); refine inAt_cur (c_l1Once ?_ ?_ ?_) (by rfl) (by rfl) (by rfl) ?_)
         | (refine Or.inr ⟨rfl, Or.inl ?_⟩; (conv => whnf); refine inAt_cur (c_l1BytesG ?_ ?_ ?_ ?_) (by rfl) (by rfl) (by rfl) ?_)
         | refine be_small (by decide) (by decide)
         | (refine Or.inr ⟨rfl, Or.inl ?_⟩; (conv => whnf); refine inAt_cur (c_l1Int ?_ [0, -1, 2147483646, 2147483647] ?_ (by decide) (by decide)) (by rfl) (by rfl) (by rfl) ?_)
         | refine exQ (?_, ?_) ?_ ?_
         | exact trivial
         | (with_reducible rfl)
         | exact (rfl : (0 : Int) = ((0 : Nat) : Int))
         | exact w64_nat arith
         | refine bcase_T (by first | with_reducible rfl | decide) ?_
         | refine bcase_F (by first | with_reducible rfl | decide) ?_
         | refine bcase_dec (fun _ => ?_) (fun _ => ?_)
         | refine bcase_not ?_
         | refine bcase_intro (fun _ => ?_) (fun _ => ?_)
         | refine ⟨(by with_reducible rfl), ?_⟩
         | refine ⟨congrArg vi ?_, ?_⟩
         | refine ⟨congrArg vb ?_, ?_⟩
         | refine ⟨rfl, ?_⟩
         | refine ⟨(by kernel_rfl : drawOK _ = true), ?_⟩
         | refine Or.inl ?_
         | refine ⟨⟨congrArg (T.int _) ?_, rfl⟩, ?_⟩
         | refine ⟨⟨congrArg T.bool ?_, rfl⟩, ?_⟩
         | refine ⟨⟨rfl, Nat.le_of_ble_eq_true rfl⟩, ?_⟩
         | refine ⟨⟨rfl, rfl⟩, ?_⟩
         | refine ⟨⟨rfl, (by decide)⟩, ?_⟩
         | refine ⟨⟨rfl, ?_⟩, ?_⟩
         | refine ⟨Or.inr rfl, ?_⟩
         | refine ⟨Or.inl rfl, ?_⟩
         | refine ⟨⟨⟨rfl, rfl, rfl⟩, ?_⟩, ?_⟩
         | refine ⟨_, _, rfl, row_get _ _ arith, rfl, ?_⟩
         | refine ⟨Or.inr (by repeat (first | exact trivial | refine ⟨rfl, ?_⟩)), ?_⟩
         | refine ⟨(?_ : _ = ([] : List (List T))), ?_⟩
         | fail))
  all_goals (show Cu.ok _; repeat (first | assumption | refine beN_ok ?_))
structure FC where
  a1 : Int
  a2 : Int
  a3 : Int
  a4 : Int
  s : List (List T)
  a5 : Int
  i : List (List T)
  a6 : Int
  c : Cu
def FC.r (x : FC) : List RC := [.s (I x.a1), .s (I x.a2), .s (I x.a3), .s (I x.a4), .l 1 x.s, .s (I x.a5), .l 1 x.i, .s (I x.a6)]
structure FC.ok (x : FC) : Prop where
  s : rowsB 16 x.s
  i : rowsB 17 x.i
  c : x.c.ok
theorem e_l29Any (c : Cu) (h : c.ok) : CurE Try.prog 34 (Cu.e c) [] FC (fun x => Cu.e x.c) (fun x => [.agg x.r]) FC.ok := by
  refine curE_of Try.func34 rfl (by kernel_rfl) rfl ?_
  all_goals repeat' (first
    | (with_reducible rfl)
    | (conv => whnf
       first
         | (show Cu.ok _; repeat (first | assumption | refine beN_ok ?_ | refine cuI_ok ?_ _))
         | (refine Or.inr ⟨rfl, Or.inl ?_⟩; (conv => whnf); refine inAt_curK ?_ (e_l29Client ?_ ?_) (by rfl) (by rfl) (by rfl); rintro  ⟨x, c1⟩ ⟨⟨hx, hx0⟩, hc1⟩)
         | (refine Or.inr ⟨rfl, Or.inl ?_⟩; (conv => whnf); refine inAt_cur (c_l1Below ?_ ?_ ?_) (by rfl) (by rfl) (by rfl) ?_)
         | (refine Or.inr ⟨rfl, Or.inl ?_⟩; (conv => whnf); refine inAt_cur (c_l1Once ?_ ?_ ?_) (by rfl) (by rfl) (by rfl) ?_)
         | (refine Or.inr ⟨rfl, Or.inl ?_⟩; (conv => whnf); refine inAt_cur (c_l1BytesG ?_ ?_ ?_ ?_) (by rfl) (by rfl) (by rfl) ?_)
         | refine be_small (by decide) (by decide)
         | (refine Or.inr ⟨rfl, Or.inl ?_⟩; (conv => whnf); refine inAt_curK ?_ (e_l13Key ?_ ?_) (by rfl) (by rfl) (by rfl); rintro ⟨k, c2⟩ hc2)
         | (refine Or.inr ⟨rfl, Or.inl ?_⟩; (conv => whnf); refine inAt_cur (c_l1Int ?_ [-1, 7, 8, x.Friend] ?_ (by show 0 < 4; decide) (by show 4 ≤ 1099511627776; decide)) (by rfl) (by rfl) (by rfl) ?_)
         | (refine Or.inr ⟨rfl, Or.inl ?_⟩; (conv => whnf); refine inAt_cur (c_l1Int ?_ [-1, ((x.Submitted.map (eL eU)).length : Int), IntKind.i64.wrap (((x.Submitted.map (eL eU)).length : Int) + 1)] ?_ (by show 0 < 3; decide) (by show 3 ≤ 1099511627776; decide)) (by rfl) (by rfl) (by rfl) ?_)
         | (refine Or.inr ⟨rfl, Or.inl ?_⟩; (conv => whnf); refine inAt_cur (c_l1Int ?_ [-1, 99999, 100000, 100001] ?_ (by decide) (by decide)) (by rfl) (by rfl) (by rfl) ?_)
         | refine Or.inr ⟨(by kernel_rfl), 0, ⟨_, rfl⟩, ?_⟩
         | (refine Or.inl ?_; (conv => whnf); first | refine cur_ex (c_l1Below ?_ ?_ ?_) (by rfl) (by rfl) ?_ | refine cur_ex (c_l1BytesG ?_ ?_ ?_ ?_) (by rfl) (by rfl) ?_)
         | refine ⟨_, ⟨mk_eq (mk_bnd (by decide) (by decide)).1, mk_eq (mk_bnd (by decide) (by decide)).1⟩, mk_bytes (Nat.le_trans (mk_bnd (by decide) (by decide)).2 (by decide)) (by decide), ?_⟩
         | (have h8 := hx.inb.1; refine ⟨⟨bnd, bnd⟩, ?_⟩)
         | refine exQ ⟨?_, ?_, ?_, ?_, ?_, ?_, ?_, ?_, ?_⟩ ?_ ?_
         | exact trivial
         | (with_reducible rfl)
         | exact (rfl : (0 : Int) = ((0 : Nat) : Int))
         | exact w64_nat arith
         | refine bcase_T (by first | with_reducible rfl | decide) ?_
         | refine bcase_F (by first | with_reducible rfl | decide) ?_
         | refine bcase_dec (fun _ => ?_) (fun _ => ?_)
         | refine bcase_not ?_
         | refine bcase_intro (fun _ => ?_) (fun _ => ?_)
         | refine ⟨(by with_reducible rfl), ?_⟩
         | refine ⟨congrArg vi ?_, ?_⟩
         | refine ⟨congrArg vb ?_, ?_⟩
         | refine ⟨rfl, ?_⟩
         | refine ⟨(by kernel_rfl : drawOK _ = true), ?_⟩
         | refine Or.inl ?_
         | refine ⟨⟨congrArg (T.int _) ?_, rfl⟩, ?_⟩
         | refine ⟨⟨congrArg T.bool ?_, rfl⟩, ?_⟩
         | refine ⟨⟨rfl, Nat.le_of_ble_eq_true rfl⟩, ?_⟩
         | refine ⟨⟨rfl, rfl⟩, ?_⟩
         | refine ⟨⟨rfl, (by decide)⟩, ?_⟩
         | refine ⟨⟨rfl, ?_⟩, ?_⟩
         | refine ⟨Or.inr rfl, ?_⟩
         | refine ⟨Or.inl rfl, ?_⟩
         | refine ⟨⟨⟨rfl, rfl, rfl⟩, ?_⟩, ?_⟩
         | refine ⟨_, _, rfl, row_get _ _ arith, rfl, ?_⟩
         | refine ⟨Or.inr (by repeat (first | exact trivial | refine ⟨rfl, ?_⟩)), ?_⟩
         | refine ⟨(?_ : _ = ([] : List (List T))), ?_⟩
         | fail))
  all_goals refine ⟨rowsB.of hx.sub (by decide), ?_, ?_⟩
  all_goals first
    | (show Cu.ok _; repeat (first | assumption | refine beN_ok ?_))
    | exact rowsB.of hx.inb (by decide)
    | exact rowsB.zero (mk_bnd (by decide) (by decide)).2
    | exact rowsB.add (x := List.replicate (IntKind.i64.wrap (14 + beV (beN c1 14) 2)).toNat 0) hx.inb (by decide) (by rw [List.length_replicate]; exact Nat.le_trans (mk_bnd (c := beN c1 14) (k := 14) (by decide) (by decide)).2 (by decide)) (by show [[T.lst (List.replicate _ [T.int .u8 0])]] = [[T.lst ((List.replicate _ (0 : UInt8)).map eU)]]; rw [List.map_replicate]; rfl)
    | trace_state
def rowsU (n : Nat) (rows : List (List T)) : Prop := ∃ l : List UInt8, rows = l.map eU ∧ l.length ≤ n
theorem rowsU.set {n j : Nat} {d : List UInt8} {v : Int} (h : d.length ≤ n) : rowsU n ((d.map eU).set j [T.int .u8 (IntKind.u8.wrap v)]) :=
  ⟨d.set j (Vm.byteOf v), by rw [u8_wrap, List.map_set]; rfl, by simpa using h⟩
theorem rowsU.cut {n k : Nat} {d : List UInt8} (h : d.length ≤ n) : rowsU n (((d.map eU).take k).drop 0) :=
  ⟨d.take k, by rw [List.drop_zero, List.map_take], by rw [List.length_take]; omega⟩
theorem rowsU.add {n : Nat} {d : List UInt8} {v : Int} (h : d.length + 1 ≤ n) : rowsU n (d.map eU ++ [[T.int .u8 (IntKind.u8.wrap v)]]) :=
  ⟨d ++ [Vm.byteOf v], by rw [u8_wrap, List.map_append]; rfl, by simpa using h⟩
theorem bent_j {c : Cu} {n : Nat} (h : 0 < (n : Int)) : 0 ≤ beV c n ∧ (beV c n).toNat < n := by
  have := beV_lt (c := c) h
  omega
theorem bent_jm {c : Cu} {d : List UInt8} (h : 0 < ((d.map eU).length : Int)) : (beV c (d.map eU).length).toNat < d.length := by
  have h1 := (bent_j (c := c) h).2
  rw [List.length_map] at h1 ⊢
  exact h1
theorem bent_k {c : Cu} {n : Nat} (h : n ≤ 1024) : 0 ≤ beV c (IntKind.i64.wrap ((n : Int) + 1)) ∧ (beV c (IntKind.i64.wrap ((n : Int) + 1))).toNat ≤ n := by
  rw [w64_ok (by omega) (by omega)]
  have := beV_lt (c := c) (n := (n : Int) + 1) (by omega)
  omega
def rcU (n : Nat) (r : RC) : Prop := (∃ l : List UInt8, r = .l 1 (l.map eU) ∧ l.length ≤ n) ∨ r = .s (L eU [])
theorem rcU.of {n : Nat} {rows : List (List T)} (h : rowsU n rows) : rcU n (.l 1 rows) := by
  obtain ⟨l, e, hl⟩ := h
  exact Or.inl ⟨l, by rw [e], hl⟩
theorem rcU.nil {n : Nat} : rcU n (.s (L eU [])) := Or.inr rfl
attribute [local irreducible] rcU
theorem e_l1Bent (c : Cu) (d : List UInt8) (h : c.ok) (hd : d.length ≤ 1024) : CurE Try.prog 44 (Cu.e c) [.one (L eU d)] (RC × Cu) (fun x => Cu.e x.2) (fun x => [.one x.1]) (fun x => rcU (d.length + 1) x.1 ∧ x.2.ok) := by
  have hm : (d.map eU).length = d.length := List.length_map _
  refine curE_of Try.func44 rfl (by kernel_rfl) rfl ?_
  all_goals repeat' (first
    | (with_reducible rfl)
    | (conv => whnf
       first
         | (show Cu.ok _; repeat (first | assumption | refine beN_ok ?_ | refine cuI_ok ?_ _))
         | (refine Or.inr ⟨rfl, Or.inl ?_⟩; (conv => whnf); refine inAt_cur (c_l1Below ?_ ?_ ?_) (by rfl) (by rfl) (by rfl) ?_)
         | (refine Or.inr ⟨rfl, Or.inl ?_⟩; (conv => whnf); refine inAt_cur (c_l1Once ?_ ?_ ?_) (by rfl) (by rfl) (by rfl) ?_)
         | (refine Or.inr ⟨rfl, Or.inl ?_⟩; (conv => whnf); refine inAt_cur (c_l1BytesG ?_ ?_ ?_ ?_) (by rfl) (by rfl) (by rfl) ?_)
         | refine be_small (by decide) (by decide)
         | (refine Or.inr ⟨rfl, Or.inl ?_⟩; (conv => whnf); refine inAt_cur (c_l1Int ?_ [0, 1, 128, 255] ?_ (by decide) (by decide)) (by rfl) (by rfl) (by rfl) ?_)
         | (have h8 := hd; refine ⟨true, fun _ => scalU _, lenU _, ⟨bnd, bnd⟩, ?_⟩)
         | refine ⟨true, fun _ => (by simp [isScal]), ⟨rfl, rfl⟩, ⟨(by show ((d.map eU).length + 1) * 1 ≤ 140737488355328; omega), (by show (d.map eU).length + 1 ≤ 140737488355328; omega)⟩, ?_⟩
         | refine ⟨_, mk_eq (bent_j (by assumption)).1, (bent_j (by assumption)).2, ?_⟩
         | refine ⟨_, row_get eU d (bent_jm (by assumption)), ?_⟩
         | refine ⟨0, _, rfl, congrArg (fun z => some (vint .i64 z)) (mk_eq (bent_k (by show (d.map eU).length ≤ 1024; omega)).1), ⟨Nat.zero_le _, (bent_k (by show (d.map eU).length ≤ 1024; omega)).2⟩, ?_⟩
         | (have hq : beV c 6 = 1 := (by assumption); refine (if h0 : 0 < (beV (beN c 6) (IntKind.i64.wrap (((d.map eU).length : Int) + 1))).toNat then exQ (.l 1 (((d.map eU).take (beV (beN c 6) (IntKind.i64.wrap (((d.map eU).length : Int) + 1))).toNat).drop 0), ?_) ?_ ?_ else exQ (.s (L eU []), ?_) ?_ ?_))
         | refine exQ (.l 1 ?_, ?_) ?_ ?_
         | refine ⟨⟨Nat.le_of_not_lt (by assumption), rfl⟩, ?_⟩
         | exact trivial
         | (with_reducible rfl)
         | exact (rfl : (0 : Int) = ((0 : Nat) : Int))
         | exact w64_nat arith
         | refine bcase_T (by first | with_reducible rfl | decide) ?_
         | refine bcase_F (by first | with_reducible rfl | decide) ?_
         | refine bcase_dec (fun _ => ?_) (fun _ => ?_)
         | refine bcase_not ?_
         | refine bcase_intro (fun _ => ?_) (fun _ => ?_)
         | refine ⟨(by with_reducible rfl), ?_⟩
         | refine ⟨congrArg vi ?_, ?_⟩
         | refine ⟨congrArg vb ?_, ?_⟩
         | refine ⟨rfl, ?_⟩
         | refine ⟨(by kernel_rfl : drawOK _ = true), ?_⟩
         | refine Or.inl ?_
         | refine ⟨⟨congrArg (T.int _) ?_, rfl⟩, ?_⟩
         | refine ⟨⟨congrArg T.bool ?_, rfl⟩, ?_⟩
         | refine ⟨⟨rfl, Nat.le_of_ble_eq_true rfl⟩, ?_⟩
         | refine ⟨⟨rfl, rfl⟩, ?_⟩
         | refine ⟨⟨rfl, (by decide)⟩, ?_⟩
         | refine ⟨⟨rfl, ?_⟩, ?_⟩
         | refine ⟨Or.inr rfl, ?_⟩
         | refine ⟨Or.inl rfl, ?_⟩
         | refine ⟨⟨⟨rfl, rfl, rfl⟩, ?_⟩, ?_⟩
         | refine ⟨_, _, rfl, row_get _ _ arith, rfl, ?_⟩
         | refine ⟨Or.inr (by repeat (first | exact trivial | refine ⟨rfl, ?_⟩)), ?_⟩
         | refine ⟨(?_ : _ = ([] : List (List T))), ?_⟩
         | fail))
  all_goals first
    | exact bent_k (by show (d.map eU).length ≤ 1024; omega)
    | exact ⟨by assumption, (bent_k (by show (d.map eU).length ≤ 1024; omega)).2, rfl⟩
    | exact ⟨Nat.le_of_not_lt (by assumption), rfl⟩
    | (refine And.intro ?_ (by show Cu.ok _; repeat (first | assumption | refine beN_ok ?_)); first | exact rcU.of ⟨d, rfl, Nat.le_succ _⟩ | exact rcU.of (rowsU.set (Nat.le_succ _)) | exact rcU.of (rowsU.cut (Nat.le_succ _)) | exact rcU.of (rowsU.add (Nat.le_refl _)) | exact rcU.nil)
    | trace_state
end Go.Proofs.Ytdbgmncapignoaa
