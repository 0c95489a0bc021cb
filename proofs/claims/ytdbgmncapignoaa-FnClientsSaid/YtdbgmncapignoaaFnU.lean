/-
  Contracts: what a client writes.
  Conditions: none.
-/
import Derived.Test.YtdbgmncapignoaaFnO
namespace Go.Proofs.Ytdbgmncapignoaa
set_option maxHeartbeats 4000000
set_option maxRecDepth 20000
open Go.Vm Go.RowKit
attribute [local irreducible] FnAt MutAt InAt JAt CurAt FnE CurE RegAt

def coverRow (s r n : Int) : Int := if inR n 1 64 then (child (khash s [157, r]) 0).tmod n else -1
def coverCell (s : Int) : List UInt8 := stream (khash s [73]) 24
def dirKey (k d : Int) : Int := orOne (khash k [83, d])
theorem c_CoverRow (s r n : Int) : FnAt Try.prog 59 [.one (I s), .one (I r), .one (I n)] [.one (.s (I (coverRow s r n)))] := by
  refine fn_of Try.func59 rfl (by kernel_rfl) rfl ?_
  all_goals repeat' (first
    | (with_reducible rfl)
    | (conv => whnf
       first
         | exact trivial
         | (with_reducible rfl)
         | exact (rfl : (0 : Int) = ((0 : Nat) : Int))
         | exact w64_nat arith
         | refine bcase_T (by first | with_reducible rfl | decide) ?_
         | refine bcase_F (by first | with_reducible rfl | decide) ?_
         | refine bcase_dec (fun _ => ?_) (fun _ => ?_)
         | refine bcase_not ?_
         | refine bcase_intro (fun _ => ?_) (fun _ => ?_)
         | refine ⟨(by with_reducible rfl), ?_⟩
         | refine ⟨congrArg vi ?_, ?_⟩
         | refine ⟨congrArg vb ?_, ?_⟩
         | refine ⟨rfl, ?_⟩
         | refine ⟨(by kernel_rfl : drawOK _ = true), ?_⟩
         | refine Or.inl ?_
         | refine ⟨⟨congrArg (T.int _) ?_, rfl⟩, ?_⟩
         | refine ⟨⟨congrArg T.bool ?_, rfl⟩, ?_⟩
         | refine ⟨⟨rfl, Nat.le_of_ble_eq_true rfl⟩, ?_⟩
         | refine ⟨⟨rfl, rfl⟩, ?_⟩
         | refine ⟨⟨rfl, (by decide)⟩, ?_⟩
         | refine ⟨⟨rfl, ?_⟩, ?_⟩
         | refine ⟨Or.inr rfl, ?_⟩
         | refine ⟨Or.inl rfl, ?_⟩
         | refine ⟨⟨⟨rfl, rfl, rfl⟩, ?_⟩, ?_⟩
         | refine ⟨_, _, rfl, row_get _ _ arith, rfl, ?_⟩
         | refine ⟨Or.inr (by repeat (first | exact trivial | refine ⟨rfl, ?_⟩)), ?_⟩
         | refine ⟨(?_ : _ = ([] : List (List T))), ?_⟩
         | refine ⟨_, c_InRange _ _ _, ?_⟩
         | refine ⟨_, c_KeyedHash s [157, r] (by simp), ?_⟩
         | refine ⟨_, c_ChildSeed _ _, ?_⟩
         | refine ⟨(by have := inR_iff.1 (by assumption : inR n 1 64 = true); omega), ?_⟩
         | fail))
  all_goals simp_all [coverRow]
theorem c_CoverCell (s : Int) : FnAt Try.prog 60 [.one (I s)] [.one (.l 1 ((coverCell s).map eU))] := by
  refine fn_of Try.func60 rfl (by kernel_rfl) rfl ?_
  all_goals repeat' (first
    | (with_reducible rfl)
    | (conv => whnf
       first
         | exact trivial
         | (with_reducible rfl)
         | exact (rfl : (0 : Int) = ((0 : Nat) : Int))
         | exact w64_nat arith
         | refine bcase_T (by first | with_reducible rfl | decide) ?_
         | refine bcase_F (by first | with_reducible rfl | decide) ?_
         | refine bcase_dec (fun _ => ?_) (fun _ => ?_)
         | refine bcase_not ?_
         | refine bcase_intro (fun _ => ?_) (fun _ => ?_)
         | refine ⟨(by with_reducible rfl), ?_⟩
         | refine ⟨congrArg vi ?_, ?_⟩
         | refine ⟨congrArg vb ?_, ?_⟩
         | refine ⟨rfl, ?_⟩
         | refine ⟨(by kernel_rfl : drawOK _ = true), ?_⟩
         | refine Or.inl ?_
         | refine ⟨⟨congrArg (T.int _) ?_, rfl⟩, ?_⟩
         | refine ⟨⟨congrArg T.bool ?_, rfl⟩, ?_⟩
         | refine ⟨⟨rfl, Nat.le_of_ble_eq_true rfl⟩, ?_⟩
         | refine ⟨⟨rfl, rfl⟩, ?_⟩
         | refine ⟨⟨rfl, (by decide)⟩, ?_⟩
         | refine ⟨⟨rfl, ?_⟩, ?_⟩
         | refine ⟨Or.inr rfl, ?_⟩
         | refine ⟨Or.inl rfl, ?_⟩
         | refine ⟨⟨⟨rfl, rfl, rfl⟩, ?_⟩, ?_⟩
         | refine ⟨_, _, rfl, row_get _ _ arith, rfl, ?_⟩
         | refine ⟨Or.inr (by repeat (first | exact trivial | refine ⟨rfl, ?_⟩)), ?_⟩
         | refine ⟨(?_ : _ = ([] : List (List T))), ?_⟩
         | refine ⟨_, c_KeyedHash s [73] (by simp), ?_⟩
         | refine ⟨_, c_StreamBytes _ 24, ?_⟩
         | fail))
  all_goals rfl
theorem c_DirectionKey (k d : Int) : FnAt Try.prog 50 [.one (I k), .one (I d)] [.one (.s (I (dirKey k d)))] := by
  refine fn_of Try.func50 rfl (by kernel_rfl) rfl ?_
  all_goals repeat' (first
    | (with_reducible rfl)
    | (conv => whnf
       first
         | exact trivial
         | (with_reducible rfl)
         | exact (rfl : (0 : Int) = ((0 : Nat) : Int))
         | exact w64_nat arith
         | refine bcase_T (by first | with_reducible rfl | decide) ?_
         | refine bcase_F (by first | with_reducible rfl | decide) ?_
         | refine bcase_dec (fun _ => ?_) (fun _ => ?_)
         | refine bcase_not ?_
         | refine bcase_intro (fun _ => ?_) (fun _ => ?_)
         | refine ⟨(by with_reducible rfl), ?_⟩
         | refine ⟨congrArg vi ?_, ?_⟩
         | refine ⟨congrArg vb ?_, ?_⟩
         | refine ⟨rfl, ?_⟩
         | refine ⟨(by kernel_rfl : drawOK _ = true), ?_⟩
         | refine Or.inl ?_
         | refine ⟨⟨congrArg (T.int _) ?_, rfl⟩, ?_⟩
         | refine ⟨⟨congrArg T.bool ?_, rfl⟩, ?_⟩
         | refine ⟨⟨rfl, Nat.le_of_ble_eq_true rfl⟩, ?_⟩
         | refine ⟨⟨rfl, rfl⟩, ?_⟩
         | refine ⟨⟨rfl, (by decide)⟩, ?_⟩
         | refine ⟨⟨rfl, ?_⟩, ?_⟩
         | refine ⟨Or.inr rfl, ?_⟩
         | refine ⟨Or.inl rfl, ?_⟩
         | refine ⟨⟨⟨rfl, rfl, rfl⟩, ?_⟩, ?_⟩
         | refine ⟨_, _, rfl, row_get _ _ arith, rfl, ?_⟩
         | refine ⟨Or.inr (by repeat (first | exact trivial | refine ⟨rfl, ?_⟩)), ?_⟩
         | refine ⟨(?_ : _ = ([] : List (List T))), ?_⟩
         | refine ⟨_, c_KeyedHash k [83, d] (by simp), ?_⟩
         | refine ⟨_, c_orOne _, ?_⟩
         | fail))
  all_goals rfl
theorem c_sDirectionKey (k d : Int) : FnAt Try.prog 40 [.one (I k), .one (I d)] [.one (.s (I (dirKey k d)))] := by
  refine fn_of Try.func40 rfl (by kernel_rfl) rfl ?_
  all_goals repeat' (first
    | (with_reducible rfl)
    | (conv => whnf
       first
         | exact trivial
         | (with_reducible rfl)
         | exact (rfl : (0 : Int) = ((0 : Nat) : Int))
         | exact w64_nat arith
         | refine bcase_T (by first | with_reducible rfl | decide) ?_
         | refine bcase_F (by first | with_reducible rfl | decide) ?_
         | refine bcase_dec (fun _ => ?_) (fun _ => ?_)
         | refine bcase_not ?_
         | refine bcase_intro (fun _ => ?_) (fun _ => ?_)
         | refine ⟨(by with_reducible rfl), ?_⟩
         | refine ⟨congrArg vi ?_, ?_⟩
         | refine ⟨congrArg vb ?_, ?_⟩
         | refine ⟨rfl, ?_⟩
         | refine ⟨(by kernel_rfl : drawOK _ = true), ?_⟩
         | refine Or.inl ?_
         | refine ⟨⟨congrArg (T.int _) ?_, rfl⟩, ?_⟩
         | refine ⟨⟨congrArg T.bool ?_, rfl⟩, ?_⟩
         | refine ⟨⟨rfl, Nat.le_of_ble_eq_true rfl⟩, ?_⟩
         | refine ⟨⟨rfl, rfl⟩, ?_⟩
         | refine ⟨⟨rfl, (by decide)⟩, ?_⟩
         | refine ⟨⟨rfl, ?_⟩, ?_⟩
         | refine ⟨Or.inr rfl, ?_⟩
         | refine ⟨Or.inl rfl, ?_⟩
         | refine ⟨⟨⟨rfl, rfl, rfl⟩, ?_⟩, ?_⟩
         | refine ⟨_, _, rfl, row_get _ _ arith, rfl, ?_⟩
         | refine ⟨Or.inr (by repeat (first | exact trivial | refine ⟨rfl, ?_⟩)), ?_⟩
         | refine ⟨(?_ : _ = ([] : List (List T))), ?_⟩
         | refine ⟨_, c_sKeyedHash k [83, d] (by simp), ?_⟩
         | refine ⟨_, c_sMax1 _ (khash_range _ _).1, ?_⟩
         | fail))
  all_goals rfl
def msgCell (c : DClient) (h : c.Sent.toNat < c.Submitted.length) : List UInt8 := sealCell (dirKey c.Key (dirOf c)) c.Sent ⟨1, c.Submitted[c.Sent.toNat]⟩
theorem c_messageCell (c : DClient) (h0 : 0 ≤ c.Sent) (h : c.Sent.toNat < c.Submitted.length) (hb : bigC c) (hl : (c.Submitted[c.Sent.toNat]).length ≤ 1048576) : FnAt Try.prog 48 [.agg (DClient.e c), .one (I c.Sent)] [.one (.l 1 ((msgCell c h).map eU))] := by
  have hm : (c.Submitted.map (eL eU)).length = c.Submitted.length := List.length_map (eL eU)
  refine fn_of Try.func48 rfl (by kernel_rfl) rfl ?_
  all_goals repeat' (first
    | (with_reducible rfl)
    | (conv => whnf
       first
         | exact trivial
         | (with_reducible rfl)
         | exact (rfl : (0 : Int) = ((0 : Nat) : Int))
         | exact w64_nat arith
         | refine bcase_T (by first | with_reducible rfl | decide) ?_
         | refine bcase_F (by first | with_reducible rfl | decide) ?_
         | refine bcase_dec (fun _ => ?_) (fun _ => ?_)
         | refine bcase_not ?_
         | refine bcase_intro (fun _ => ?_) (fun _ => ?_)
         | refine ⟨(by with_reducible rfl), ?_⟩
         | refine ⟨congrArg vi ?_, ?_⟩
         | refine ⟨congrArg vb ?_, ?_⟩
         | refine ⟨rfl, ?_⟩
         | refine ⟨(by kernel_rfl : drawOK _ = true), ?_⟩
         | refine Or.inl ?_
         | refine ⟨⟨congrArg (T.int _) ?_, rfl⟩, ?_⟩
         | refine ⟨⟨congrArg T.bool ?_, rfl⟩, ?_⟩
         | refine ⟨⟨rfl, Nat.le_of_ble_eq_true rfl⟩, ?_⟩
         | refine ⟨⟨rfl, rfl⟩, ?_⟩
         | refine ⟨⟨rfl, (by decide)⟩, ?_⟩
         | refine ⟨⟨rfl, ?_⟩, ?_⟩
         | refine ⟨Or.inr rfl, ?_⟩
         | refine ⟨Or.inl rfl, ?_⟩
         | refine ⟨⟨⟨rfl, rfl, rfl⟩, ?_⟩, ?_⟩
         | refine ⟨_, _, rfl, row_get _ _ arith, rfl, ?_⟩
         | refine ⟨Or.inr (by repeat (first | exact trivial | refine ⟨rfl, ?_⟩)), ?_⟩
         | refine ⟨(?_ : _ = ([] : List (List T))), ?_⟩
         | refine ⟨_, c_direction c, ?_⟩
         | refine ⟨_, c_DirectionKey _ _, ?_⟩
         | refine ⟨c.Sent.toNat, (by omega), (by omega), ?_⟩
         | refine ⟨c.Sent.toNat, _, (by omega), row_get _ _ (by omega), rfl, ?_⟩
         | refine ⟨_, c_SealCell (dirKey c.Key (dirOf c)) c.Sent ⟨1, c.Submitted[c.Sent.toNat]⟩ hl, ?_⟩
         | fail))
  all_goals rfl
theorem c_l29Cell (c : DClient) (h0 : 0 ≤ c.Sent) (h : c.Sent.toNat < c.Submitted.length) (hb : bigC c) (hl : (c.Submitted[c.Sent.toNat]).length ≤ 1048576) : FnAt Try.prog 38 [.agg (DClient.e c)] [.one (.l 1 ((msgCell c h).map eU))] := by
  have hm : (c.Submitted.map (eL eU)).length = c.Submitted.length := List.length_map (eL eU)
  refine fn_of Try.func38 rfl (by kernel_rfl) rfl ?_
  all_goals repeat' (first
    | (with_reducible rfl)
    | (conv => whnf
       first
         | exact trivial
         | (with_reducible rfl)
         | exact (rfl : (0 : Int) = ((0 : Nat) : Int))
         | exact w64_nat arith
         | refine bcase_T (by first | with_reducible rfl | decide) ?_
         | refine bcase_F (by first | with_reducible rfl | decide) ?_
         | refine bcase_dec (fun _ => ?_) (fun _ => ?_)
         | refine bcase_not ?_
         | refine bcase_intro (fun _ => ?_) (fun _ => ?_)
         | refine ⟨(by with_reducible rfl), ?_⟩
         | refine ⟨congrArg vi ?_, ?_⟩
         | refine ⟨congrArg vb ?_, ?_⟩
         | refine ⟨rfl, ?_⟩
         | refine ⟨(by kernel_rfl : drawOK _ = true), ?_⟩
         | refine Or.inl ?_
         | refine ⟨⟨congrArg (T.int _) ?_, rfl⟩, ?_⟩
         | refine ⟨⟨congrArg T.bool ?_, rfl⟩, ?_⟩
         | refine ⟨⟨rfl, Nat.le_of_ble_eq_true rfl⟩, ?_⟩
         | refine ⟨⟨rfl, rfl⟩, ?_⟩
         | refine ⟨⟨rfl, (by decide)⟩, ?_⟩
         | refine ⟨⟨rfl, ?_⟩, ?_⟩
         | refine ⟨Or.inr rfl, ?_⟩
         | refine ⟨Or.inl rfl, ?_⟩
         | refine ⟨⟨⟨rfl, rfl, rfl⟩, ?_⟩, ?_⟩
         | refine ⟨_, _, rfl, row_get _ _ arith, rfl, ?_⟩
         | refine ⟨Or.inr (by repeat (first | exact trivial | refine ⟨rfl, ?_⟩)), ?_⟩
         | refine ⟨(?_ : _ = ([] : List (List T))), ?_⟩
         | refine ⟨_, c_l29Direction c, ?_⟩
         | refine ⟨_, c_sDirectionKey _ _, ?_⟩
         | refine ⟨c.Sent.toNat, (by omega), (by omega), ?_⟩
         | refine ⟨c.Sent.toNat, _, (by omega), row_get _ _ (by omega), rfl, ?_⟩
         | refine ⟨_, c_sSealCell (dirKey c.Key (dirOf c)) c.Sent ⟨1, c.Submitted[c.Sent.toNat]⟩ hl, ?_⟩
         | fail))
  all_goals rfl
def writes (c : DClient) (r n : Int) : Bool := clientOk c && inR r 0 100000 && inR n 1 64
theorem clientOk_sent {c : DClient} (h : clientOk c = true) : 0 ≤ c.Sent := by
  simp only [clientOk, Bool.and_eq_true] at h
  exact (inR_iff.1 h.1.2).1
theorem clientOk_body {c : DClient} (h : clientOk c = true) {i : Nat} (hi : i < c.Submitted.length) : (c.Submitted[i]).length ≤ 14 := by
  simp only [clientOk, bodiesOk, Bool.and_eq_true, Bool.not_eq_true', List.any_eq_false] at h
  have := h.1.1.1.2.1 _ (List.getElem_mem hi)
  simp only [long, decide_eq_true_eq] at this
  omega
def writeRow (c : DClient) (r n : Int) : Int := if writes c r n then (if c.Sent < c.Submitted.length then mailRow c.Key r (dirOf c) n else coverRow c.Seed r n) else 0
def writeCell (c : DClient) (r n : Int) : List UInt8 := if writes c r n then (if h : c.Sent.toNat < c.Submitted.length then msgCell c h else coverCell (khash c.Seed [r])) else []
theorem writeCell_len (c : DClient) (r n : Int) : (writeCell c r n).length ≤ 1048576 := by
  unfold writeCell
  split
  · next hw =>
    split
    · next h =>
      unfold msgCell sealCell
      split
      · have h1 : clientOk c = true := by simp only [writes, Bool.and_eq_true] at hw; exact hw.1.1
        have h2 := clientOk_body h1 h
        have h3 := sealPlain_len (khash (dirKey c.Key (dirOf c)) [61, c.Sent]) ⟨1, c.Submitted[c.Sent.toNat]⟩
        have h4 := encB_len (cellKey (dirKey c.Key (dirOf c)) c.Sent) (sealPlain (khash (dirKey c.Key (dirOf c)) [61, c.Sent]) ⟨1, c.Submitted[c.Sent.toNat]⟩)
        rw [List.length_append, bytes4_len, sealData, h4]
        dsimp only at h3
        omega
      · exact Nat.zero_le _
    · unfold coverCell; rw [stream_T (by decide), strm_len]; decide
  · exact Nat.zero_le _
theorem c_ClientWrite (c : DClient) (r n : Int) (hb : bigC c) : FnAt Try.prog 12 [.agg (DClient.e c), .one (I r), .one (I n)] [.one (.s (I (writeRow c r n))), .one (.l 1 ((writeCell c r n).map eU)), .one (.s (.bool (writes c r n)))] := by
  have hm : (c.Submitted.map (eL eU)).length = c.Submitted.length := List.length_map (eL eU)
  by_cases hw : writes c r n = true
  · have hw' := hw
    simp only [writes, Bool.and_eq_true] at hw'
    obtain ⟨⟨h1, h2⟩, h3⟩ := hw'
    have h0 := clientOk_sent h1
    refine fn_of Try.func12 rfl (by kernel_rfl) rfl ?_
    all_goals repeat' (first
      | (with_reducible rfl)
      | (conv => whnf
         first
           | refine ⟨_, c_IsValidClient c hb, ?_⟩
           | refine ⟨_, c_InRange _ _ _, ?_⟩
           | refine bcase_F (by rw [h1]; rfl) ?_
           | refine bcase_F (by rw [h2]; rfl) ?_
           | refine bcase_F (by rw [h3]; rfl) ?_
           | refine ⟨_, c_direction c, ?_⟩
           | refine ⟨_, c_MailboxRow _ _ _ _, ?_⟩
           | refine ⟨_, c_messageCell c h0 (by omega) hb (by have := clientOk_body h1 (i := c.Sent.toNat) (by omega); omega), ?_⟩
           | refine ⟨_, c_CoverRow _ _ _, ?_⟩
           | refine ⟨_, c_KeyedHash c.Seed [r] (by simp), ?_⟩
           | refine ⟨_, c_CoverCell _, ?_⟩
           | exact trivial
           | (with_reducible rfl)
           | exact (rfl : (0 : Int) = ((0 : Nat) : Int))
           | exact w64_nat arith
           | refine bcase_T (by first | with_reducible rfl | decide) ?_
           | refine bcase_F (by first | with_reducible rfl | decide) ?_
           | refine bcase_dec (fun _ => ?_) (fun _ => ?_)
           | refine bcase_not ?_
           | refine bcase_intro (fun _ => ?_) (fun _ => ?_)
           | refine ⟨(by with_reducible rfl), ?_⟩
           | refine ⟨congrArg vi ?_, ?_⟩
           | refine ⟨congrArg vb ?_, ?_⟩
           | refine ⟨rfl, ?_⟩
           | refine ⟨(by kernel_rfl : drawOK _ = true), ?_⟩
           | refine Or.inl ?_
           | refine ⟨⟨congrArg (T.int _) ?_, rfl⟩, ?_⟩
           | refine ⟨⟨congrArg T.bool ?_, rfl⟩, ?_⟩
           | refine ⟨⟨rfl, Nat.le_of_ble_eq_true rfl⟩, ?_⟩
           | refine ⟨⟨rfl, rfl⟩, ?_⟩
           | refine ⟨⟨rfl, (by decide)⟩, ?_⟩
           | refine ⟨⟨rfl, ?_⟩, ?_⟩
           | refine ⟨Or.inr rfl, ?_⟩
           | refine ⟨Or.inl rfl, ?_⟩
           | refine ⟨⟨⟨rfl, rfl, rfl⟩, ?_⟩, ?_⟩
           | refine ⟨_, _, rfl, row_get _ _ arith, rfl, ?_⟩
           | refine ⟨Or.inr (by repeat (first | exact trivial | refine ⟨rfl, ?_⟩)), ?_⟩
           | refine ⟨(?_ : _ = ([] : List (List T))), ?_⟩
           | fail))
    all_goals first
      | exact hw.symm
      | (unfold writeRow; rw [hw, if_pos rfl, if_pos (by omega)]; done)
      | (unfold writeRow; rw [hw, if_pos rfl, if_neg (by omega)]; done)
      | (unfold writeCell; rw [hw, if_pos rfl, dif_pos (by omega)]; done)
      | (unfold writeCell; rw [hw, if_pos rfl, dif_neg (by omega)]; done)
      | skip
  · have e := eq_false_of_ne_true hw
    refine fn_of Try.func12 rfl (by kernel_rfl) rfl ?_
    all_goals repeat' (first
      | (with_reducible rfl)
      | (conv => whnf
         first
           | exact trivial
           | (with_reducible rfl)
           | exact (rfl : (0 : Int) = ((0 : Nat) : Int))
           | exact w64_nat arith
           | refine bcase_T (by first | with_reducible rfl | decide) ?_
           | refine bcase_F (by first | with_reducible rfl | decide) ?_
           | refine bcase_dec (fun _ => ?_) (fun _ => ?_)
           | refine bcase_not ?_
           | refine bcase_intro (fun _ => ?_) (fun _ => ?_)
           | refine ⟨(by with_reducible rfl), ?_⟩
           | refine ⟨congrArg vi ?_, ?_⟩
           | refine ⟨congrArg vb ?_, ?_⟩
           | refine ⟨rfl, ?_⟩
           | refine ⟨(by kernel_rfl : drawOK _ = true), ?_⟩
           | refine Or.inl ?_
           | refine ⟨⟨congrArg (T.int _) ?_, rfl⟩, ?_⟩
           | refine ⟨⟨congrArg T.bool ?_, rfl⟩, ?_⟩
           | refine ⟨⟨rfl, Nat.le_of_ble_eq_true rfl⟩, ?_⟩
           | refine ⟨⟨rfl, rfl⟩, ?_⟩
           | refine ⟨⟨rfl, (by decide)⟩, ?_⟩
           | refine ⟨⟨rfl, ?_⟩, ?_⟩
           | refine ⟨Or.inr rfl, ?_⟩
           | refine ⟨Or.inl rfl, ?_⟩
           | refine ⟨⟨⟨rfl, rfl, rfl⟩, ?_⟩, ?_⟩
           | refine ⟨_, _, rfl, row_get _ _ arith, rfl, ?_⟩
           | refine ⟨Or.inr (by repeat (first | exact trivial | refine ⟨rfl, ?_⟩)), ?_⟩
           | refine ⟨(?_ : _ = ([] : List (List T))), ?_⟩
           | refine ⟨_, c_IsValidClient c hb, ?_⟩
           | refine ⟨_, c_InRange _ _ _, ?_⟩
           | fail))
    all_goals first
      | exact e.symm
      | (unfold writeRow; rw [e]; rfl)
      | (unfold writeCell; rw [e]; rfl)
      | (exfalso; exact hw (by unfold writes; grind))
      | skip
end Go.Proofs.Ytdbgmncapignoaa
