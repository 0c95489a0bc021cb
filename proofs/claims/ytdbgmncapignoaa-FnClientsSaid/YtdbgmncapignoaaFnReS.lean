/-
  Contracts: what a client reads, of the model.
  Conditions: none.
-/
import Derived.Test.YtdbgmncapignoaaFnRe
import Derived.Test.YtdbgmncapignoaaFnOpS
namespace Go.Proofs.Ytdbgmncapignoaa
set_option maxHeartbeats 4000000
set_option maxRecDepth 20000
open Go.Vm Go.RowKit
attribute [local irreducible] FnAt MutAt InAt JAt CurAt FnE CurE RegAt

attribute [local irreducible] openCell openOk msgCell dirKey
theorem c_sClientRead (c : DClient) (r : Int) (own other : List UInt8) (hb : bigC c) (ho : own.length ≤ 1099511627776) (ht : other.length ≤ 1099511627776) : FnAt Try.prog 10 [.agg (DClient.e c), .one (I r), .one (L eU own), .one (L eU other)] [.agg (DClient.r (readC c r own other)), .one (.s (.bool (readsOk c r)))] := by
  have hm : (c.Submitted.map (eL eU)).length = c.Submitted.length := List.length_map (eL eU)
  have hm2 : (c.Inbox.map (eL eU)).length = c.Inbox.length := List.length_map (eL eU)
  have hd := dir_flip c
  cases h1 : clientOk c with
  | false =>
    have e : readsOk c r = false := by unfold readsOk; rw [h1]; rfl
    have e2 : readC c r own other = c := by unfold readC; rw [e]; rfl
    rw [e, e2]
    refine fn_of Try.func10 rfl (by kernel_rfl) rfl ?_
    all_goals repeat' (first
      | (with_reducible rfl)
      | (conv => whnf
         first
           | refine ⟨_, c_l29Copy _ hb, ?_⟩
           | refine ⟨_, c_sIsValidClient c hb, ?_⟩
           | refine bcase_T (by rw [h1]; rfl) ?_
           | exact trivial
           | (with_reducible rfl)
           | exact (rfl : (0 : Int) = ((0 : Nat) : Int))
           | exact w64_nat arith
           | refine bcase_T (by first | with_reducible rfl | decide) ?_
           | refine bcase_F (by first | with_reducible rfl | decide) ?_
           | refine bcase_dec (fun _ => ?_) (fun _ => ?_)
           | refine bcase_not ?_
           | refine bcase_intro (fun _ => ?_) (fun _ => ?_)
           | refine ⟨(by with_reducible rfl), ?_⟩
           | refine ⟨congrArg vi ?_, ?_⟩
           | refine ⟨congrArg vb ?_, ?_⟩
           | refine ⟨rfl, ?_⟩
           | refine ⟨(by kernel_rfl : drawOK _ = true), ?_⟩
           | refine Or.inl ?_
           | refine ⟨⟨congrArg (T.int _) ?_, rfl⟩, ?_⟩
           | refine ⟨⟨congrArg T.bool ?_, rfl⟩, ?_⟩
           | refine ⟨⟨rfl, Nat.le_of_ble_eq_true rfl⟩, ?_⟩
           | refine ⟨⟨rfl, rfl⟩, ?_⟩
           | refine ⟨⟨rfl, (by decide)⟩, ?_⟩
           | refine ⟨⟨rfl, ?_⟩, ?_⟩
           | refine ⟨Or.inr rfl, ?_⟩
           | refine ⟨Or.inl rfl, ?_⟩
           | refine ⟨⟨⟨rfl, rfl, rfl⟩, ?_⟩, ?_⟩
           | refine ⟨_, _, rfl, row_get _ _ arith, rfl, ?_⟩
           | refine ⟨Or.inr (by repeat (first | exact trivial | refine ⟨rfl, ?_⟩)), ?_⟩
           | refine ⟨(?_ : _ = ([] : List (List T))), ?_⟩
           | fail))
    all_goals rfl
  | true =>
  cases h2 : inR r c.Next 99999 with
  | false =>
    have e : readsOk c r = false := by unfold readsOk; rw [h2, Bool.and_false]
    have e2 : readC c r own other = c := by unfold readC; rw [e]; rfl
    rw [e, e2]
    refine fn_of Try.func10 rfl (by kernel_rfl) rfl ?_
    all_goals repeat' (first
      | (with_reducible rfl)
      | (conv => whnf
         first
           | refine ⟨_, c_l29Copy _ hb, ?_⟩
           | refine ⟨_, c_sIsValidClient c hb, ?_⟩
           | refine ⟨_, c_l1In _ _ _, ?_⟩
           | refine bcase_F (by rw [h1]; rfl) ?_
           | refine bcase_T (by rw [h2]; rfl) ?_
           | exact trivial
           | (with_reducible rfl)
           | exact (rfl : (0 : Int) = ((0 : Nat) : Int))
           | exact w64_nat arith
           | refine bcase_T (by first | with_reducible rfl | decide) ?_
           | refine bcase_F (by first | with_reducible rfl | decide) ?_
           | refine bcase_dec (fun _ => ?_) (fun _ => ?_)
           | refine bcase_not ?_
           | refine bcase_intro (fun _ => ?_) (fun _ => ?_)
           | refine ⟨(by with_reducible rfl), ?_⟩
           | refine ⟨congrArg vi ?_, ?_⟩
           | refine ⟨congrArg vb ?_, ?_⟩
           | refine ⟨rfl, ?_⟩
           | refine ⟨(by kernel_rfl : drawOK _ = true), ?_⟩
           | refine Or.inl ?_
           | refine ⟨⟨congrArg (T.int _) ?_, rfl⟩, ?_⟩
           | refine ⟨⟨congrArg T.bool ?_, rfl⟩, ?_⟩
           | refine ⟨⟨rfl, Nat.le_of_ble_eq_true rfl⟩, ?_⟩
           | refine ⟨⟨rfl, rfl⟩, ?_⟩
           | refine ⟨⟨rfl, (by decide)⟩, ?_⟩
           | refine ⟨⟨rfl, ?_⟩, ?_⟩
           | refine ⟨Or.inr rfl, ?_⟩
           | refine ⟨Or.inl rfl, ?_⟩
           | refine ⟨⟨⟨rfl, rfl, rfl⟩, ?_⟩, ?_⟩
           | refine ⟨_, _, rfl, row_get _ _ arith, rfl, ?_⟩
           | refine ⟨Or.inr (by repeat (first | exact trivial | refine ⟨rfl, ?_⟩)), ?_⟩
           | refine ⟨(?_ : _ = ([] : List (List T))), ?_⟩
           | fail))
    all_goals rfl
  | true =>
  have hr := inR_iff.1 h2
  have h0 := clientOk_sent h1
  have hn := clientOk_next h1
  have e : readsOk c r = true := by unfold readsOk; rw [h1, h2]; rfl
  have hlow : ∀ h : c.Sent.toNat < c.Submitted.length, c.Submitted[c.Sent.toNat].length ≤ 1048576 := fun h => by have := clientOk_body h1 h; omega
  have e2 : readC c r own other = { c with Sent := readSent c own, Inbox := readInbox c other, Next := r + 1 } := by unfold readC; rw [e]; rfl
  have e3 : readInbox c other = if readTake c other then c.Inbox ++ [(readOpen c other).Body] else c.Inbox := rfl
  have e4 : readTake c other = (openOk (dirKey c.Key (1 - dirOf c)) c.Inbox.length other && decide ((readOpen c other).Kind = 1) && decide ((c.Inbox.length : Int) < 16)) := rfl
  have e5 : readSent c own = if h : c.Sent.toNat < c.Submitted.length then (if own == msgCell c h then c.Sent + 1 else c.Sent) else c.Sent := rfl
  have hl40 := hb.1.1
  have t0 : readOpen c other = openCell (dirKey c.Key (1 - dirOf c)) c.Inbox.length other := rfl
  have t1 : openOk (dirKey c.Key (1 - dirOf c)) c.Inbox.length other = true → (openCell (dirKey c.Key (1 - dirOf c)) c.Inbox.length other).Kind = 1 → ((c.Inbox.map (eL eU)).length : Int) < 16 → readInbox c other = c.Inbox ++ [(openCell (dirKey c.Key (1 - dirOf c)) c.Inbox.length other).Body] := fun q1 q2 q3 => by
    rw [e3, e4, t0, q1, decide_eq_true q2, decide_eq_true (by rw [← hm2]; exact q3)]; rfl
  have t2 : openOk (dirKey c.Key (1 - dirOf c)) c.Inbox.length other = false → readInbox c other = c.Inbox := fun q => by rw [e3, e4, q]; rfl
  have t3 : ¬ (openCell (dirKey c.Key (1 - dirOf c)) c.Inbox.length other).Kind = 1 → readInbox c other = c.Inbox := fun q => by rw [e3, e4, t0, decide_eq_false q, Bool.and_false]; rfl
  have t4 : ¬ ((c.Inbox.map (eL eU)).length : Int) < 16 → readInbox c other = c.Inbox := fun q => by rw [e3, e4, decide_eq_false (p := (c.Inbox.length : Int) < 16) (by rw [← hm2]; exact q), Bool.and_false]; rfl
  have t5 : ∀ h : c.Sent.toNat < c.Submitted.length, (own == msgCell c h) = true → IntKind.i64.wrap (c.Sent + 1) = readSent c own := fun h q => by rw [e5, dif_pos h, if_pos q, w64_ok (by omega) (by omega)]
  have t6 : ∀ h : c.Sent.toNat < c.Submitted.length, (own == msgCell c h) = false → c.Sent = readSent c own := fun h q => by rw [e5, dif_pos h, if_neg (by rw [q]; decide)]
  have t7 : ¬ c.Sent.toNat < c.Submitted.length → c.Sent = readSent c own := fun h => by rw [e5, dif_neg h]
  have t8 : IntKind.i64.wrap (r + 1) = r + 1 := w64_ok (by omega) (by omega)
  clear e3 e4 e5
  rw [e, e2]
  by_cases hs : c.Sent.toNat < c.Submitted.length
  case pos =>
    have hlo := hlow hs
    refine fn_of Try.func10 rfl (by kernel_rfl) rfl ?_
    all_goals repeat' (first
      | (with_reducible rfl)
      | (conv => whnf
         first
           | refine ⟨_, c_l29Copy _ hb, ?_⟩
           | refine ⟨_, c_sIsValidClient c hb, ?_⟩
           | refine ⟨_, c_l1In _ _ _, ?_⟩
           | refine bcase_F (by rw [h1]; rfl) ?_
           | refine bcase_F (by rw [h2]; rfl) ?_
           | refine bcase_T (by rw [decide_eq_true_eq]; omega) ?_
           | refine ⟨_, c_l29Cell c h0 hs hb hlo, ?_⟩
           | refine ⟨_, c_sEqualBytes own (msgCell c hs), ?_⟩
           | refine ⟨_, c_l29Direction c, ?_⟩
           | (rw [hd]; refine ⟨_, c_sDirectionKey _ _, ?_⟩)
           | refine ⟨_, fn_args (c_sOpenCell (dirKey c.Key (1 - dirOf c)) c.Inbox.length other ht) (by rw [hm2]; rfl), ?_⟩
           | refine ⟨⟨bnd, bnd⟩, ?_⟩
           | exact trivial
           | (with_reducible rfl)
           | exact (rfl : (0 : Int) = ((0 : Nat) : Int))
           | exact w64_nat arith
           | refine bcase_T (by first | with_reducible rfl | decide) ?_
           | refine bcase_F (by first | with_reducible rfl | decide) ?_
           | refine bcase_dec (fun _ => ?_) (fun _ => ?_)
           | refine bcase_not ?_
           | refine bcase_intro (fun _ => ?_) (fun _ => ?_)
           | refine ⟨(by with_reducible rfl), ?_⟩
           | refine ⟨congrArg vi ?_, ?_⟩
           | refine ⟨congrArg vb ?_, ?_⟩
           | refine ⟨rfl, ?_⟩
           | refine ⟨(by kernel_rfl : drawOK _ = true), ?_⟩
           | refine Or.inl ?_
           | refine ⟨⟨congrArg (T.int _) ?_, rfl⟩, ?_⟩
           | refine ⟨⟨congrArg T.bool ?_, rfl⟩, ?_⟩
           | refine ⟨⟨rfl, Nat.le_of_ble_eq_true rfl⟩, ?_⟩
           | refine ⟨⟨rfl, rfl⟩, ?_⟩
           | refine ⟨⟨rfl, (by decide)⟩, ?_⟩
           | refine ⟨⟨rfl, ?_⟩, ?_⟩
           | refine ⟨Or.inr rfl, ?_⟩
           | refine ⟨Or.inl rfl, ?_⟩
           | refine ⟨⟨⟨rfl, rfl, rfl⟩, ?_⟩, ?_⟩
           | refine ⟨_, _, rfl, row_get _ _ arith, rfl, ?_⟩
           | refine ⟨Or.inr (by repeat (first | exact trivial | refine ⟨rfl, ?_⟩)), ?_⟩
           | refine ⟨(?_ : _ = ([] : List (List T))), ?_⟩
           | fail))
    all_goals first
      | rfl
      | (exfalso; omega)
      | exact t5 hs (by assumption)
      | exact t6 hs (by assumption)
      | exact t7 hs
      | exact t8
      | (show _ = List.map (eL eU) (readInbox c other); rw [t2 (by assumption)]; done)
      | (show _ = List.map (eL eU) (readInbox c other); rw [t3 (by assumption)]; done)
      | (show _ = List.map (eL eU) (readInbox c other); rw [t4 (by assumption)]; done)
      | (show _ = List.map (eL eU) (readInbox c other); rw [t1 (by assumption) (by assumption) (by assumption), List.map_append]; rfl)
      | skip
  refine fn_of Try.func10 rfl (by kernel_rfl) rfl ?_
  all_goals repeat' (first
    | (with_reducible rfl)
    | (conv => whnf
       first
         | refine ⟨_, c_l29Copy _ hb, ?_⟩
         | refine ⟨_, c_sIsValidClient c hb, ?_⟩
         | refine ⟨_, c_l1In _ _ _, ?_⟩
         | refine bcase_F (by rw [h1]; rfl) ?_
         | refine bcase_F (by rw [h2]; rfl) ?_
         | refine bcase_F (by rw [decide_eq_false_iff_not]; omega) ?_
         | refine ⟨_, c_l29Direction c, ?_⟩
         | (rw [hd]; refine ⟨_, c_sDirectionKey _ _, ?_⟩)
         | refine ⟨_, fn_args (c_sOpenCell (dirKey c.Key (1 - dirOf c)) c.Inbox.length other ht) (by rw [hm2]; rfl), ?_⟩
         | refine ⟨⟨bnd, bnd⟩, ?_⟩
         | exact trivial
         | (with_reducible rfl)
         | exact (rfl : (0 : Int) = ((0 : Nat) : Int))
         | exact w64_nat arith
         | refine bcase_T (by first | with_reducible rfl | decide) ?_
         | refine bcase_F (by first | with_reducible rfl | decide) ?_
         | refine bcase_dec (fun _ => ?_) (fun _ => ?_)
         | refine bcase_not ?_
         | refine bcase_intro (fun _ => ?_) (fun _ => ?_)
         | refine ⟨(by with_reducible rfl), ?_⟩
         | refine ⟨congrArg vi ?_, ?_⟩
         | refine ⟨congrArg vb ?_, ?_⟩
         | refine ⟨rfl, ?_⟩
         | refine ⟨(by kernel_rfl : drawOK _ = true), ?_⟩
         | refine Or.inl ?_
         | refine ⟨⟨congrArg (T.int _) ?_, rfl⟩, ?_⟩
         | refine ⟨⟨congrArg T.bool ?_, rfl⟩, ?_⟩
         | refine ⟨⟨rfl, Nat.le_of_ble_eq_true rfl⟩, ?_⟩
         | refine ⟨⟨rfl, rfl⟩, ?_⟩
         | refine ⟨⟨rfl, (by decide)⟩, ?_⟩
         | refine ⟨⟨rfl, ?_⟩, ?_⟩
         | refine ⟨Or.inr rfl, ?_⟩
         | refine ⟨Or.inl rfl, ?_⟩
         | refine ⟨⟨⟨rfl, rfl, rfl⟩, ?_⟩, ?_⟩
         | refine ⟨_, _, rfl, row_get _ _ arith, rfl, ?_⟩
         | refine ⟨Or.inr (by repeat (first | exact trivial | refine ⟨rfl, ?_⟩)), ?_⟩
         | refine ⟨(?_ : _ = ([] : List (List T))), ?_⟩
         | fail))
  all_goals first
    | rfl
    | (exfalso; omega)
    | exact t5 hs (by assumption)
    | exact t6 hs (by assumption)
    | exact t7 hs
    | exact t8
    | (show _ = List.map (eL eU) (readInbox c other); rw [t2 (by assumption)]; done)
    | (show _ = List.map (eL eU) (readInbox c other); rw [t3 (by assumption)]; done)
    | (show _ = List.map (eL eU) (readInbox c other); rw [t4 (by assumption)]; done)
    | (show _ = List.map (eL eU) (readInbox c other); rw [t1 (by assumption) (by assumption) (by assumption), List.map_append]; rfl)
    | skip
end Go.Proofs.Ytdbgmncapignoaa
