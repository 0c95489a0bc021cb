/-
  Contracts: rows that are replaced, writes that are shared out, shares of a world's client.
  Conditions: none.
-/
import Derived.Test.YtpipfobdfcnghaaFnU
import Derived.Test.YtpipfobdfcnghaaFnS2
namespace Go.Proofs.Ytpipfobdfcnghaa
set_option maxHeartbeats 4000000
set_option maxRecDepth 20000
open Go.Vm Go.RowKit
attribute [local irreducible] FnAt MutAt InAt JAt CurAt FnE CurE RegAt

attribute [local irreducible] xorB
def rowOk (d : DDatabase) (i : Int) (c : List UInt8) : Bool := inR i 0 ((d.Rows.length : Int) - 1) && decide (c.length = 24)
def putRow (d : DDatabase) (i : Int) (c : List UInt8) : DDatabase := if rowOk d i c then ⟨d.Rows.set i.toNat c⟩ else d
theorem putRow_big {d : DDatabase} (h : bigB d.Rows) (i : Int) (c : List UInt8) : bigB (putRow d i c).Rows := by
  unfold putRow
  split
  · rename_i hk
    simp only [rowOk, Bool.and_eq_true, decide_eq_true_eq] at hk
    refine ⟨by rw [List.length_set]; exact h.1, fun x hx => ?_⟩
    rcases List.mem_or_eq_of_mem_set hx with hx | hx
    · exact h.2 x hx
    · rw [hx, hk.2]; decide
  · exact h
theorem set_mapL (l : List (List UInt8)) (i : Nat) (x : List UInt8) : (l.map (eL eU)).set i [T.lst (x.map eU)] = (l.set i x).map (eL eU) := by rw [List.map_set]; rfl
theorem dlen {n : Nat} (h : n ≤ 1099511627776) : IntKind.i64.wrap ((n : Int) - 1) = (n : Int) - 1 := w64_ok (by omega) (by omega)
theorem c_sReplaceRow (d : DDatabase) (i : Int) (c : List UInt8) (h : bigB d.Rows) (hc : c.length ≤ 1099511627776) : FnAt Try.prog 67 [.agg (DDatabase.e d), .one (I i), .one (L eU c)] [.agg (DDatabase.r (putRow d i c)), .one (.s (.bool (rowOk d i c)))] := by
  have hm := lenm (eL eU) d.Rows
  have hw := dlen h.1
  have hl := lenm eU c
  by_cases hk : rowOk d i c = true
  case neg =>
    have e := eq_false_of_ne_true hk
    have e2 : putRow d i c = d := by unfold putRow; rw [e]; rfl
    rw [e, e2]
    refine fn_of Try.func67 rfl (by kernel_rfl) rfl ?_
    all_goals repeat' (first | (with_reducible rfl) | ((conv => whnf); first | exact trivial | (with_reducible rfl) | exact (rfl : (0 : Int) = ((0 : Nat) : Int)) | exact w64_nat arith | refine bcase_T (by first | with_reducible rfl | decide) ?_ | refine bcase_F (by first | with_reducible rfl | decide) ?_ | refine bcase_dec (fun _ => ?_) (fun _ => ?_) | refine bcase_not ?_ | refine bcase_intro (fun _ => ?_) (fun _ => ?_) | refine ⟨(by with_reducible rfl), ?_⟩ | refine ⟨congrArg vi ?_, ?_⟩ | refine ⟨congrArg vb ?_, ?_⟩ | refine ⟨rfl, ?_⟩ | refine ⟨(by kernel_rfl : drawOK _ = true), ?_⟩ | refine Or.inl ?_ | refine ⟨⟨congrArg (T.int _) ?_, rfl⟩, ?_⟩ | refine ⟨⟨congrArg T.bool ?_, rfl⟩, ?_⟩ | refine ⟨⟨rfl, Nat.le_of_ble_eq_true rfl⟩, ?_⟩ | refine ⟨⟨rfl, rfl⟩, ?_⟩ | refine ⟨⟨rfl, (by decide)⟩, ?_⟩ | refine ⟨⟨rfl, ?_⟩, ?_⟩ | refine ⟨Or.inr rfl, ?_⟩ | refine ⟨Or.inl rfl, ?_⟩ | refine ⟨⟨⟨rfl, rfl, rfl⟩, ?_⟩, ?_⟩ | refine ⟨_, _, rfl, row_get _ _ arith, rfl, ?_⟩ | refine ⟨Or.inr (by repeat (first | exact trivial | refine ⟨rfl, ?_⟩)), ?_⟩ | refine ⟨(?_ : _ = ([] : List (List T))), ?_⟩ | refine ⟨_, c_l8Copy d h, ?_⟩ | refine ⟨_, fn_args (c_l1In i 0 ((d.Rows.length : Int) - 1)) (by rw [hm, hw]; rfl), ?_⟩ | fail))
    all_goals first
      | rfl
      | (exfalso; exact hk (by unfold rowOk; simp_all <;> omega))
      | skip
  have hk' := hk
  simp only [rowOk, Bool.and_eq_true, decide_eq_true_eq] at hk'
  obtain ⟨h1, h2⟩ := hk'
  have h3 := inR_iff.1 h1
  obtain ⟨i, rfl⟩ := Int.eq_ofNat_of_zero_le h3.1
  have hi : i < d.Rows.length := by omega
  have e2 : putRow d i c = ⟨d.Rows.set i c⟩ := by unfold putRow; rw [hk, if_pos rfl, Int.toNat_natCast]
  rw [hk, e2]
  refine fn_of Try.func67 rfl (by kernel_rfl) rfl ?_
  all_goals repeat' (first | (with_reducible rfl) | ((conv => whnf); first | refine ⟨_, c_l8Copy d h, ?_⟩ | refine ⟨_, fn_args (c_l1In i 0 ((d.Rows.length : Int) - 1)) (by rw [hm, hw]; rfl), ?_⟩ | refine ⟨true, fun _ => scalU _, lenU _, ⟨bnd, bnd⟩, ?_⟩ | refine bcase_F (by rw [h1]; rfl) ?_ | refine bcase_F (by rw [hl, h2]; rfl) ?_ | refine ⟨i, rfl, (by omega), ?_⟩ | refine ⟨_, row_get _ _ hi, ⟨rfl, Nat.le_of_ble_eq_true rfl⟩, ?_⟩ | exact trivial | (with_reducible rfl) | exact (rfl : (0 : Int) = ((0 : Nat) : Int)) | exact w64_nat arith | refine bcase_T (by first | with_reducible rfl | decide) ?_ | refine bcase_F (by first | with_reducible rfl | decide) ?_ | refine bcase_dec (fun _ => ?_) (fun _ => ?_) | refine bcase_not ?_ | refine bcase_intro (fun _ => ?_) (fun _ => ?_) | refine ⟨(by with_reducible rfl), ?_⟩ | refine ⟨congrArg vi ?_, ?_⟩ | refine ⟨congrArg vb ?_, ?_⟩ | refine ⟨rfl, ?_⟩ | refine ⟨(by kernel_rfl : drawOK _ = true), ?_⟩ | refine Or.inl ?_ | refine ⟨⟨congrArg (T.int _) ?_, rfl⟩, ?_⟩ | refine ⟨⟨congrArg T.bool ?_, rfl⟩, ?_⟩ | refine ⟨⟨rfl, Nat.le_of_ble_eq_true rfl⟩, ?_⟩ | refine ⟨⟨rfl, rfl⟩, ?_⟩ | refine ⟨⟨rfl, (by decide)⟩, ?_⟩ | refine ⟨⟨rfl, ?_⟩, ?_⟩ | refine ⟨Or.inr rfl, ?_⟩ | refine ⟨Or.inl rfl, ?_⟩ | refine ⟨⟨⟨rfl, rfl, rfl⟩, ?_⟩, ?_⟩ | refine ⟨_, _, rfl, row_get _ _ arith, rfl, ?_⟩ | refine ⟨Or.inr (by repeat (first | exact trivial | refine ⟨rfl, ?_⟩)), ?_⟩ | refine ⟨(?_ : _ = ([] : List (List T))), ?_⟩ | fail))
  all_goals first
    | rfl
    | exact set_mapL d.Rows i c
    | skip
attribute [local irreducible] xorDb xorOk newDb putRow rowOk
def unitOk (n i : Int) (c : List UInt8) : Bool := inR n 1 64 && rowOk (newDb n) i c
def unitW (n i : Int) (c : List UInt8) : DDatabase := if inR n 1 64 then putRow (newDb n) i c else ⟨[]⟩
theorem unitW_big (n i : Int) (c : List UInt8) : bigB (unitW n i c).Rows := by
  unfold unitW
  split
  · exact putRow_big (newDb_big n) i c
  · exact ⟨by simp, by simp⟩
theorem newDb_len {n : Int} (h : inR n 1 64 = true) : ((newDb n).Rows.length : Int) = n := by
  have h1 := inR_iff.1 h
  unfold newDb
  rw [if_pos (inR_iff.2 ⟨by omega, h1.2⟩), List.length_replicate]
  omega
theorem unitOk_eq (n i : Int) (c : List UInt8) : unitOk n i c = (inR n 1 64 && inR i 0 (n - 1) && decide (c.length = 24)) := by
  unfold unitOk
  cases h : inR n 1 64 with
  | false => rfl
  | true => unfold rowOk; rw [newDb_len h]; simp
theorem c_l11Row (n i : Int) (c : List UInt8) (hn : okI n) : FnAt Try.prog 66 [.one (I n), .one (I i), .one (L eU c)] [.one (.s (.bool (unitOk n i c)))] := by
  have hl := lenm eU c
  rw [unitOk_eq]
  cases h : inR n 1 64 with
  | false =>
    refine fn_of Try.func66 rfl (by kernel_rfl) rfl ?_
    all_goals repeat' (first | (with_reducible rfl) | ((conv => whnf); first | refine ⟨_, c_l1In n 1 64, ?_⟩ | refine bcase_F h ?_ | exact trivial | (with_reducible rfl) | exact (rfl : (0 : Int) = ((0 : Nat) : Int)) | exact w64_nat arith | refine bcase_T (by first | with_reducible rfl | decide) ?_ | refine bcase_F (by first | with_reducible rfl | decide) ?_ | refine bcase_dec (fun _ => ?_) (fun _ => ?_) | refine bcase_not ?_ | refine bcase_intro (fun _ => ?_) (fun _ => ?_) | refine ⟨(by with_reducible rfl), ?_⟩ | refine ⟨congrArg vi ?_, ?_⟩ | refine ⟨congrArg vb ?_, ?_⟩ | refine ⟨rfl, ?_⟩ | refine ⟨(by kernel_rfl : drawOK _ = true), ?_⟩ | refine Or.inl ?_ | refine ⟨⟨congrArg (T.int _) ?_, rfl⟩, ?_⟩ | refine ⟨⟨congrArg T.bool ?_, rfl⟩, ?_⟩ | refine ⟨⟨rfl, Nat.le_of_ble_eq_true rfl⟩, ?_⟩ | refine ⟨⟨rfl, rfl⟩, ?_⟩ | refine ⟨⟨rfl, (by decide)⟩, ?_⟩ | refine ⟨⟨rfl, ?_⟩, ?_⟩ | refine ⟨Or.inr rfl, ?_⟩ | refine ⟨Or.inl rfl, ?_⟩ | refine ⟨⟨⟨rfl, rfl, rfl⟩, ?_⟩, ?_⟩ | refine ⟨_, _, rfl, row_get _ _ arith, rfl, ?_⟩ | refine ⟨Or.inr (by repeat (first | exact trivial | refine ⟨rfl, ?_⟩)), ?_⟩ | refine ⟨(?_ : _ = ([] : List (List T))), ?_⟩ | fail))
    all_goals simp_all
  | true =>
    have h1 := inR_iff.1 h
    have hw : IntKind.i64.wrap (n - 1) = n - 1 := w64_ok (by omega) (by omega)
    refine fn_of Try.func66 rfl (by kernel_rfl) rfl ?_
    all_goals repeat' (first | (with_reducible rfl) | ((conv => whnf); first | refine ⟨_, c_l1In n 1 64, ?_⟩ | refine bcase_T h ?_ | refine ⟨_, fn_args (c_l1In i 0 (n - 1)) (by rw [hw]; rfl), ?_⟩ | exact trivial | (with_reducible rfl) | exact (rfl : (0 : Int) = ((0 : Nat) : Int)) | exact w64_nat arith | refine bcase_T (by first | with_reducible rfl | decide) ?_ | refine bcase_F (by first | with_reducible rfl | decide) ?_ | refine bcase_dec (fun _ => ?_) (fun _ => ?_) | refine bcase_not ?_ | refine bcase_intro (fun _ => ?_) (fun _ => ?_) | refine ⟨(by with_reducible rfl), ?_⟩ | refine ⟨congrArg vi ?_, ?_⟩ | refine ⟨congrArg vb ?_, ?_⟩ | refine ⟨rfl, ?_⟩ | refine ⟨(by kernel_rfl : drawOK _ = true), ?_⟩ | refine Or.inl ?_ | refine ⟨⟨congrArg (T.int _) ?_, rfl⟩, ?_⟩ | refine ⟨⟨congrArg T.bool ?_, rfl⟩, ?_⟩ | refine ⟨⟨rfl, Nat.le_of_ble_eq_true rfl⟩, ?_⟩ | refine ⟨⟨rfl, rfl⟩, ?_⟩ | refine ⟨⟨rfl, (by decide)⟩, ?_⟩ | refine ⟨⟨rfl, ?_⟩, ?_⟩ | refine ⟨Or.inr rfl, ?_⟩ | refine ⟨Or.inl rfl, ?_⟩ | refine ⟨⟨⟨rfl, rfl, rfl⟩, ?_⟩, ?_⟩ | refine ⟨_, _, rfl, row_get _ _ arith, rfl, ?_⟩ | refine ⟨Or.inr (by repeat (first | exact trivial | refine ⟨rfl, ?_⟩)), ?_⟩ | refine ⟨(?_ : _ = ([] : List (List T))), ?_⟩ | fail))
    all_goals (try simp_all)
    all_goals (try (rw [Bool.eq_iff_iff]; simp; omega))
def wRow (s : Int) (r : Nat) : List UInt8 := stream (IntKind.i64.wrap (s + IntKind.i64.wrap (1000 * (r : Int)))) 24
def wDb (n : Int) (s : Int) : DDatabase := ⟨(List.range n.toNat).map (wRow s)⟩
def wLast (n i : Int) (c : List UInt8) (ss : List Int) : DDatabase := ss.foldl (fun l s => xorDb l (wDb n s)) (unitW n i c)
def mwOk (n i : Int) (c : List UInt8) (ss : List Int) : Bool := unitOk n i c && inR (IntKind.i64.wrap ((ss.length : Int) + 1)) 2 4
def makeW (n i : Int) (c : List UInt8) (ss : List Int) : List DDatabase := if mwOk n i c ss then ss.map (wDb n) ++ [wLast n i c ss] else []
theorem wRow_len (s : Int) (r : Nat) : (wRow s r).length ≤ 400 := by unfold wRow; rw [stream_T (by decide), strm_len]; decide
theorem wDb_big {n : Int} (h : inR n 1 64 = true) (s : Int) : bigB (wDb n s).Rows := by
  have h1 := inR_iff.1 h
  refine ⟨by unfold wDb; simp; omega, fun x hx => ?_⟩
  unfold wDb at hx
  obtain ⟨r, _, rfl⟩ := List.mem_map.1 hx
  have := wRow_len s r
  omega
theorem wLast_big {n : Int} (h : inR n 1 64 = true) (i : Int) (c : List UInt8) : ∀ (ss : List Int) (d : DDatabase), bigB d.Rows → bigB (ss.foldl (fun l s => xorDb l (wDb n s)) d).Rows
  | [], _, hd => hd
  | s :: ss, d, hd => wLast_big h i c ss _ (bigB_xor hd (wDb_big h s))
theorem wLast_succ (n i : Int) (c : List UInt8) (ss : List Int) {k : Nat} (h : k < ss.length) : wLast n i c (ss.take (k + 1)) = xorDb (wLast n i c (ss.take k)) (wDb n ss[k]) := by
  unfold wLast
  rw [List.take_succ_eq_append_getElem h, List.foldl_append]
  rfl
theorem range_succ_map {α : Type} (f : Nat → α) (r : Nat) : (List.range (r + 1)).map f = (List.range r).map f ++ [f r] := by rw [List.range_succ, List.map_append]; rfl
theorem app24 {l : List (List T)} (h : l.length ≤ 1048576) : (l.length + 1) * 24 ≤ 140737488355328 ∧ l.length + 1 ≤ 140737488355328 := by omega
theorem wRow_app (s : Int) (r : Nat) : ((List.range r).map (wRow s)).map (eL eU) ++ [[T.lst ((stream (IntKind.i64.wrap (s + IntKind.i64.wrap (1000 * (r : Int)))) 24).map eU)]] = ((List.range (r + 1)).map (wRow s)).map (eL eU) := by
  rw [range_succ_map, List.map_append]; rfl
theorem wDb_full {m r : Nat} (s : Int) (h1 : r ≤ m) (h2 : ¬ ((r : Int) < (m : Int))) : DDatabase.e (wDb m s) = [T.lst (((List.range r).map (wRow s)).map (eL eU))] := by
  have e : r = m := by omega
  subst e
  show [T.lst (((List.range ((r : Int).toNat)).map (wRow s)).map (eL eU))] = _
  rw [Int.toNat_natCast]
theorem wDb_app {m r : Nat} (ss : List Int) {k : Nat} (hk : k < ss.length) (h1 : r ≤ m) (h2 : ¬ ((r : Int) < (m : Int))) : ((ss.take k).map (wDb m)).map DDatabase.e ++ [[T.lst (((List.range r).map (wRow ss[k])).map (eL eU))]] = ((ss.take (k + 1)).map (wDb m)).map DDatabase.e := by
  rw [List.take_succ_eq_append_getElem hk, List.map_append, List.map_append, List.map_cons, List.map_nil, List.map_cons, List.map_nil, wDb_full ss[k] h1 h2]
theorem wLast_rows (n i : Int) (c : List UInt8) (ss : List Int) {k : Nat} (h : k < ss.length) : (xorDb (wLast n i c (ss.take k)) (wDb n ss[k])).Rows.map (eL eU) = (wLast n i c (ss.take (k + 1))).Rows.map (eL eU) := by rw [wLast_succ n i c ss h]
theorem w_end (n i : Int) (c : List UInt8) (ss : List Int) {k : Nat} (h : ss.length ≤ k) : ((ss.take k).map (wDb n)).map DDatabase.e ++ [[T.lst ((wLast n i c (ss.take k)).Rows.map (eL eU))]] = (ss.map (wDb n) ++ [wLast n i c ss]).map DDatabase.e := by
  rw [take_all ss h, List.map_append]; rfl
attribute [local irreducible] wRow unitOk unitW
theorem c_sMakeWrite (n i : Int) (c : List UInt8) (ss : List Int) (hn0 : okI n) (hc : c.length ≤ 1099511627776) (hs : ss.length ≤ 1099511627776) : FnAt Try.prog 40 [.one (I n), .one (I i), .one (L eU c), .one (L eI ss)] [.one (.l 1 ((makeW n i c ss).map DDatabase.e))] := by
  have hm := lenm eI ss
  have hw : IntKind.i64.wrap ((ss.length : Int) + 1) = (ss.length : Int) + 1 := w64_ok (by omega) (by omega)
  cases h1 : unitOk n i c with
  | false =>
    have e1 : makeW n i c ss = [] := by unfold makeW mwOk; rw [h1]; rfl
    rw [e1]
    refine fn_of Try.func40 rfl (by kernel_rfl) rfl ?_
    all_goals repeat' (first | (with_reducible rfl) | ((conv => whnf); first | refine ⟨_, c_l11Row n i c hn0, ?_⟩ | refine bcase_T (by rw [h1]; rfl) ?_ | exact trivial | (with_reducible rfl) | exact (rfl : (0 : Int) = ((0 : Nat) : Int)) | exact w64_nat arith | refine bcase_T (by first | with_reducible rfl | decide) ?_ | refine bcase_F (by first | with_reducible rfl | decide) ?_ | refine bcase_dec (fun _ => ?_) (fun _ => ?_) | refine bcase_not ?_ | refine bcase_intro (fun _ => ?_) (fun _ => ?_) | refine ⟨(by with_reducible rfl), ?_⟩ | refine ⟨congrArg vi ?_, ?_⟩ | refine ⟨congrArg vb ?_, ?_⟩ | refine ⟨rfl, ?_⟩ | refine ⟨(by kernel_rfl : drawOK _ = true), ?_⟩ | refine Or.inl ?_ | refine ⟨⟨congrArg (T.int _) ?_, rfl⟩, ?_⟩ | refine ⟨⟨congrArg T.bool ?_, rfl⟩, ?_⟩ | refine ⟨⟨rfl, Nat.le_of_ble_eq_true rfl⟩, ?_⟩ | refine ⟨⟨rfl, rfl⟩, ?_⟩ | refine ⟨⟨rfl, (by decide)⟩, ?_⟩ | refine ⟨⟨rfl, ?_⟩, ?_⟩ | refine ⟨Or.inr rfl, ?_⟩ | refine ⟨Or.inl rfl, ?_⟩ | refine ⟨⟨⟨rfl, rfl, rfl⟩, ?_⟩, ?_⟩ | refine ⟨_, _, rfl, row_get _ _ arith, rfl, ?_⟩ | refine ⟨Or.inr (by repeat (first | exact trivial | refine ⟨rfl, ?_⟩)), ?_⟩ | refine ⟨(?_ : _ = ([] : List (List T))), ?_⟩ | fail))
    all_goals rfl
  | true =>
  cases h2 : inR ((ss.length : Int) + 1) 2 4 with
  | false =>
    have e1 : makeW n i c ss = [] := by unfold makeW mwOk; rw [h1, hw, h2]; rfl
    rw [e1]
    refine fn_of Try.func40 rfl (by kernel_rfl) rfl ?_
    all_goals repeat' (first | (with_reducible rfl) | ((conv => whnf); first | refine ⟨_, c_l11Row n i c hn0, ?_⟩ | refine ⟨_, fn_args (c_l7Count ((ss.length : Int) + 1)) (by rw [hm, hw]; rfl), ?_⟩ | refine bcase_F (by rw [h1]; rfl) ?_ | refine bcase_T (by rw [h2]; rfl) ?_ | exact trivial | (with_reducible rfl) | exact (rfl : (0 : Int) = ((0 : Nat) : Int)) | exact w64_nat arith | refine bcase_T (by first | with_reducible rfl | decide) ?_ | refine bcase_F (by first | with_reducible rfl | decide) ?_ | refine bcase_dec (fun _ => ?_) (fun _ => ?_) | refine bcase_not ?_ | refine bcase_intro (fun _ => ?_) (fun _ => ?_) | refine ⟨(by with_reducible rfl), ?_⟩ | refine ⟨congrArg vi ?_, ?_⟩ | refine ⟨congrArg vb ?_, ?_⟩ | refine ⟨rfl, ?_⟩ | refine ⟨(by kernel_rfl : drawOK _ = true), ?_⟩ | refine Or.inl ?_ | refine ⟨⟨congrArg (T.int _) ?_, rfl⟩, ?_⟩ | refine ⟨⟨congrArg T.bool ?_, rfl⟩, ?_⟩ | refine ⟨⟨rfl, Nat.le_of_ble_eq_true rfl⟩, ?_⟩ | refine ⟨⟨rfl, rfl⟩, ?_⟩ | refine ⟨⟨rfl, (by decide)⟩, ?_⟩ | refine ⟨⟨rfl, ?_⟩, ?_⟩ | refine ⟨Or.inr rfl, ?_⟩ | refine ⟨Or.inl rfl, ?_⟩ | refine ⟨⟨⟨rfl, rfl, rfl⟩, ?_⟩, ?_⟩ | refine ⟨_, _, rfl, row_get _ _ arith, rfl, ?_⟩ | refine ⟨Or.inr (by repeat (first | exact trivial | refine ⟨rfl, ?_⟩)), ?_⟩ | refine ⟨(?_ : _ = ([] : List (List T))), ?_⟩ | fail))
    all_goals rfl
  | true =>
  have e1 : makeW n i c ss = ss.map (wDb n) ++ [wLast n i c ss] := by unfold makeW mwOk; rw [h1, hw, h2]; rfl
  have hn : inR n 1 64 = true := by unfold unitOk at h1; revert h1; cases inR n 1 64 <;> simp
  have hn2 := inR_iff.1 hn
  have hu : unitW n i c = putRow (newDb n) i c := by unfold unitW; rw [hn]; rfl
  obtain ⟨m, rfl⟩ := Int.eq_ofNat_of_zero_le (show 0 ≤ n by omega)
  have hss := inR_iff.1 h2
  have hbl := fun k => wLast_big hn i c (ss.take k) _ (unitW_big m i c)
  rw [e1]
  refine fn_of Try.func40 rfl (by kernel_rfl) rfl ?_
  all_goals repeat' (first | (with_reducible rfl) | ((conv => whnf); first | refine ⟨_, c_l11Row m i c hn0, ?_⟩ | refine ⟨_, fn_args (c_l7Count ((ss.length : Int) + 1)) (by rw [hm, hw]; rfl), ?_⟩ | refine bcase_F (by rw [h1]; rfl) ?_ | refine bcase_F (by rw [h2]; rfl) ?_ | refine ⟨_, c_sNewDatabase m, ?_⟩ | refine ⟨_, c_sReplaceRow (newDb m) i c (newDb_big m) hc, ?_⟩ | exact trivial | (with_reducible rfl) | exact (rfl : (0 : Int) = ((0 : Nat) : Int)) | exact w64_nat arith | refine bcase_T (by first | with_reducible rfl | decide) ?_ | refine bcase_F (by first | with_reducible rfl | decide) ?_ | refine bcase_dec (fun _ => ?_) (fun _ => ?_) | refine bcase_not ?_ | refine bcase_intro (fun _ => ?_) (fun _ => ?_) | refine ⟨(by with_reducible rfl), ?_⟩ | refine ⟨congrArg vi ?_, ?_⟩ | refine ⟨congrArg vb ?_, ?_⟩ | refine ⟨rfl, ?_⟩ | refine ⟨(by kernel_rfl : drawOK _ = true), ?_⟩ | refine Or.inl ?_ | refine ⟨⟨congrArg (T.int _) ?_, rfl⟩, ?_⟩ | refine ⟨⟨congrArg T.bool ?_, rfl⟩, ?_⟩ | refine ⟨⟨rfl, Nat.le_of_ble_eq_true rfl⟩, ?_⟩ | refine ⟨⟨rfl, rfl⟩, ?_⟩ | refine ⟨⟨rfl, (by decide)⟩, ?_⟩ | refine ⟨⟨rfl, ?_⟩, ?_⟩ | refine ⟨Or.inr rfl, ?_⟩ | refine ⟨Or.inl rfl, ?_⟩ | refine ⟨⟨⟨rfl, rfl, rfl⟩, ?_⟩, ?_⟩ | refine ⟨_, _, rfl, row_get _ _ arith, rfl, ?_⟩ | refine ⟨Or.inr (by repeat (first | exact trivial | refine ⟨rfl, ?_⟩)), ?_⟩ | refine ⟨(?_ : _ = ([] : List (List T))), ?_⟩ | fail))
  conv => whnf
  refine ⟨Nat, fun k => k ≤ ss.length, fun k => ⟨[(0, vi m), (3, vl (ss.map eI)), (9, .c (.ref 1)), (10, .ptr 0 0), (12, vi k)], [(0, .box [.ref 2]), (1, .row true true 1 (((ss.take k).map (wDb m)).map DDatabase.e)), (2, .row true true 1 ((wLast m i c (ss.take k)).Rows.map (eL eU)))], 3⟩, fun k => ss.length - k, 0, Nat.zero_le _, sub_at2 [(0, 10, 0), (1, 9, 0), (2, 10, 1)] rfl rfl rfl ?_ ?_, fun k (hk : k ≤ ss.length) => ?_⟩
  all_goals repeat' (first | (with_reducible rfl) | ((conv => whnf); first | refine ⟨k, _, rfl, row_get _ _ arith, rfl, ?_⟩ | exact trivial | (with_reducible rfl) | exact (rfl : (0 : Int) = ((0 : Nat) : Int)) | exact w64_nat arith | refine bcase_T (by first | with_reducible rfl | decide) ?_ | refine bcase_F (by first | with_reducible rfl | decide) ?_ | refine bcase_dec (fun _ => ?_) (fun _ => ?_) | refine bcase_not ?_ | refine bcase_intro (fun _ => ?_) (fun _ => ?_) | refine ⟨(by with_reducible rfl), ?_⟩ | refine ⟨congrArg vi ?_, ?_⟩ | refine ⟨congrArg vb ?_, ?_⟩ | refine ⟨rfl, ?_⟩ | refine ⟨(by kernel_rfl : drawOK _ = true), ?_⟩ | refine Or.inl ?_ | refine ⟨⟨congrArg (T.int _) ?_, rfl⟩, ?_⟩ | refine ⟨⟨congrArg T.bool ?_, rfl⟩, ?_⟩ | refine ⟨⟨rfl, Nat.le_of_ble_eq_true rfl⟩, ?_⟩ | refine ⟨⟨rfl, rfl⟩, ?_⟩ | refine ⟨⟨rfl, (by decide)⟩, ?_⟩ | refine ⟨⟨rfl, ?_⟩, ?_⟩ | refine ⟨Or.inr rfl, ?_⟩ | refine ⟨Or.inl rfl, ?_⟩ | refine ⟨⟨⟨rfl, rfl, rfl⟩, ?_⟩, ?_⟩ | refine ⟨_, _, rfl, row_get _ _ arith, rfl, ?_⟩ | refine ⟨Or.inr (by repeat (first | exact trivial | refine ⟨rfl, ?_⟩)), ?_⟩ | refine ⟨(?_ : _ = ([] : List (List T))), ?_⟩ | fail))
  all_goals first
    | exact hm
    | rfl
    | (rw [List.length_map]; done)
    | (rw [← hu]; rfl)
    | (rw [take_all ss arith]; rfl)
    | skip
  conv => whnf
  refine ⟨Nat, fun r => r ≤ m, fun r => ⟨[(0, vi m), (3, vl (ss.map eI)), (9, .c (.ref 1)), (10, .ptr 0 0), (12, vi k), (13, .ptr 3 0), (14, vi r)], [(0, .box [.ref 2]), (1, .row true true 1 (((ss.take k).map (wDb m)).map DDatabase.e)), (2, .row true true 1 ((wLast m i c (ss.take k)).Rows.map (eL eU))), (3, .box [.ref 4]), (4, .row true true 1 (((List.range r).map (wRow (ss[k]'arith))).map (eL eU)))], 5⟩, fun r => m - r, 0, Nat.zero_le _, sub_at2 [(0, 10, 0), (1, 9, 0), (2, 10, 1), (3, 13, 0), (4, 13, 1)] rfl rfl rfl ?_ ?_, fun r (hr : r ≤ m) => ?_⟩
  all_goals repeat' (first | (with_reducible rfl) | ((conv => whnf); first | refine ⟨_, c_sStreamBytes _ _, ?_⟩ | refine ⟨k, _, rfl, row_get _ _ arith, rfl, ?_⟩ | refine ⟨_, fn_args (c_sXorDatabases (wLast m i c (ss.take k)) (wDb m (ss[k]'arith)) (hbl k) (wDb_big hn _)) (by rw [wDb_full _ (by assumption) (by assumption)]; rfl), ?_⟩ | refine ⟨app24 (by simp only [List.length_map, List.length_range, List.length_take]; omega), ?_⟩ | refine ⟨r + 1, ⟨arith, arith⟩, sub_at2 [(0, 10, 0), (1, 9, 0), (2, 10, 1), (3, 13, 0), (4, 13, 1)] rfl rfl rfl ?_ ?_⟩ | refine ⟨k + 1, ⟨arith, arith⟩, sub_at2 [(0, 10, 0), (1, 9, 0), (2, 10, 1)] rfl rfl rfl ?_ ?_⟩ | exact trivial | (with_reducible rfl) | exact (rfl : (0 : Int) = ((0 : Nat) : Int)) | exact w64_nat arith | refine bcase_T (by first | with_reducible rfl | decide) ?_ | refine bcase_F (by first | with_reducible rfl | decide) ?_ | refine bcase_dec (fun _ => ?_) (fun _ => ?_) | refine bcase_not ?_ | refine bcase_intro (fun _ => ?_) (fun _ => ?_) | refine ⟨(by with_reducible rfl), ?_⟩ | refine ⟨congrArg vi ?_, ?_⟩ | refine ⟨congrArg vb ?_, ?_⟩ | refine ⟨rfl, ?_⟩ | refine ⟨(by kernel_rfl : drawOK _ = true), ?_⟩ | refine Or.inl ?_ | refine ⟨⟨congrArg (T.int _) ?_, rfl⟩, ?_⟩ | refine ⟨⟨congrArg T.bool ?_, rfl⟩, ?_⟩ | refine ⟨⟨rfl, Nat.le_of_ble_eq_true rfl⟩, ?_⟩ | refine ⟨⟨rfl, rfl⟩, ?_⟩ | refine ⟨⟨rfl, (by decide)⟩, ?_⟩ | refine ⟨⟨rfl, ?_⟩, ?_⟩ | refine ⟨Or.inr rfl, ?_⟩ | refine ⟨Or.inl rfl, ?_⟩ | refine ⟨⟨⟨rfl, rfl, rfl⟩, ?_⟩, ?_⟩ | refine ⟨_, _, rfl, row_get _ _ arith, rfl, ?_⟩ | refine ⟨Or.inr (by repeat (first | exact trivial | refine ⟨rfl, ?_⟩)), ?_⟩ | refine ⟨(?_ : _ = ([] : List (List T))), ?_⟩ | fail))
  all_goals first
    | exact hm
    | rfl
    | (rw [List.length_map]; done)
    | exact wRow_app _ _
    | exact wDb_app ss arith (by assumption) (by assumption)
    | exact wLast_rows m i c ss arith
    | exact w_end m i c ss arith
    | skip
  all_goals trace_state
  all_goals sorry
end Go.Proofs.Ytpipfobdfcnghaa
