/-
  Contracts: a server's answers, and what is false of them.
  Conditions: none.
-/
import Derived.Test.YtmaamiapipngaaaGreatFnAn
namespace Go.Proofs.YtmaamiapipngaaaGreat
set_option maxHeartbeats 4000000
set_option maxRecDepth 20000
open Go.Vm Go.RowKit
attribute [local irreducible] FnAt MutAt InAt JAt CurAt FnE CurE RegAt

attribute [local irreducible] ansMac ansQ ansOk selX selOk
theorem flip_run (b : UInt8) : bits .xor .u8 (b.toNat : Int) 128 = ((b ^^^ 128).toNat : Int) := by
  have h := u8_xor2 b 128
  rw [show (((128 : UInt8).toNat : Nat) : Int) = 128 from by decide] at h
  exact h
theorem ansQ_cons {d : DDatabase} {v : List Int} (h : ansOk d v = true) : ∃ b l, ansQ d v = b :: l := by
  cases e : ansQ d v with
  | nil => rw [(ansQ_nil d v).1 (by rw [e]; rfl)] at h; cases h
  | cons b l => exact ⟨b, l, rfl⟩
theorem c_AnswerAs (sv : DServer) (k r : Int) (d : DDatabase) (v : List Int) (h : bigB d.Rows) (hv : v.length ≤ 500000000000) (hq : (ansQ d v).length ≤ 500000000000) : FnAt Tryz.prog 27 [.agg (DServer.e sv), .one (I k), .one (I r), .agg (DDatabase.e d), .one (L eI v)] [.agg (DSignedAnswer.r (ansAs sv k r d v)), .one (.s (.bool (ansOk d v)))] := by
  cases h1 : ansOk d v with
  | false =>
    have e : ansAs sv k r d v = signAns k sv.Id r d v := by unfold ansAs; rw [h1]; rfl
    have e2 : signAns k sv.Id r d v = ⟨0, 0, [], [], 0⟩ := by unfold signAns; rw [h1]; rfl
    have hs := c_SignAnswer k sv.Id r d v h hv hq
    rw [h1, e2] at hs
    rw [e, e2]
    refine fn_of Tryz.func27 rfl (by kernel_rfl) rfl ?_
    all_goals repeat' (first | (with_reducible rfl) | ((conv => whnf); first | refine ⟨_, hs, ?_⟩ | exact trivial | (with_reducible rfl) | exact (rfl : (0 : Int) = ((0 : Nat) : Int)) | exact w64_nat arith | refine bcase_T (by first | with_reducible rfl | decide) ?_ | refine bcase_F (by first | with_reducible rfl | decide) ?_ | refine bcase_dec (fun _ => ?_) (fun _ => ?_) | refine bcase_not ?_ | refine bcase_intro (fun _ => ?_) (fun _ => ?_) | refine ⟨(by with_reducible rfl), ?_⟩ | refine ⟨congrArg vi ?_, ?_⟩ | refine ⟨congrArg vb ?_, ?_⟩ | refine ⟨rfl, ?_⟩ | refine ⟨(by kernel_rfl : drawOK _ = true), ?_⟩ | refine Or.inl ?_ | refine ⟨⟨congrArg (T.int _) ?_, rfl⟩, ?_⟩ | refine ⟨⟨congrArg T.bool ?_, rfl⟩, ?_⟩ | refine ⟨⟨rfl, Nat.le_of_ble_eq_true rfl⟩, ?_⟩ | refine ⟨⟨rfl, rfl⟩, ?_⟩ | refine ⟨⟨rfl, (by decide)⟩, ?_⟩ | refine ⟨⟨rfl, ?_⟩, ?_⟩ | refine ⟨Or.inr rfl, ?_⟩ | refine ⟨Or.inl rfl, ?_⟩ | refine ⟨⟨⟨rfl, rfl, rfl⟩, ?_⟩, ?_⟩ | refine ⟨_, _, rfl, row_get _ _ arith, rfl, ?_⟩ | refine ⟨Or.inr (by repeat (first | exact trivial | refine ⟨rfl, ?_⟩)), ?_⟩ | refine ⟨(?_ : _ = ([] : List (List T))), ?_⟩ | fail))
    all_goals rfl
  | true =>
    obtain ⟨b, l, hbl⟩ := ansQ_cons h1
    have e2 : signAns k sv.Id r d v = ⟨sv.Id, r, v, b :: l, ansMac k ⟨sv.Id, r, v, b :: l, 0⟩⟩ := by unfold signAns; rw [h1, ← hbl]; rfl
    have hs := c_SignAnswer k sv.Id r d v h hv hq
    rw [h1, e2] at hs
    rw [hbl] at hq
    cases h2 : decide (sv.Behavior = 3) with
    | false =>
      have e : ansAs sv k r d v = ⟨sv.Id, r, v, b :: l, ansMac k ⟨sv.Id, r, v, b :: l, 0⟩⟩ := by unfold ansAs; rw [h1, h2, e2]; rfl
      have h3 := of_decide_eq_false h2
      rw [e]
      refine fn_of Tryz.func27 rfl (by kernel_rfl) rfl ?_
      all_goals repeat' (first | (with_reducible rfl) | ((conv => whnf); first | refine ⟨_, hs, ?_⟩ | refine bcase_F (by rw [beq_eq_false_iff_ne]; exact h3) ?_ | exact trivial | (with_reducible rfl) | exact (rfl : (0 : Int) = ((0 : Nat) : Int)) | exact w64_nat arith | refine bcase_T (by first | with_reducible rfl | decide) ?_ | refine bcase_F (by first | with_reducible rfl | decide) ?_ | refine bcase_dec (fun _ => ?_) (fun _ => ?_) | refine bcase_not ?_ | refine bcase_intro (fun _ => ?_) (fun _ => ?_) | refine ⟨(by with_reducible rfl), ?_⟩ | refine ⟨congrArg vi ?_, ?_⟩ | refine ⟨congrArg vb ?_, ?_⟩ | refine ⟨rfl, ?_⟩ | refine ⟨(by kernel_rfl : drawOK _ = true), ?_⟩ | refine Or.inl ?_ | refine ⟨⟨congrArg (T.int _) ?_, rfl⟩, ?_⟩ | refine ⟨⟨congrArg T.bool ?_, rfl⟩, ?_⟩ | refine ⟨⟨rfl, Nat.le_of_ble_eq_true rfl⟩, ?_⟩ | refine ⟨⟨rfl, rfl⟩, ?_⟩ | refine ⟨⟨rfl, (by decide)⟩, ?_⟩ | refine ⟨⟨rfl, ?_⟩, ?_⟩ | refine ⟨Or.inr rfl, ?_⟩ | refine ⟨Or.inl rfl, ?_⟩ | refine ⟨⟨⟨rfl, rfl, rfl⟩, ?_⟩, ?_⟩ | refine ⟨_, _, rfl, row_get _ _ arith, rfl, ?_⟩ | refine ⟨Or.inr (by repeat (first | exact trivial | refine ⟨rfl, ?_⟩)), ?_⟩ | refine ⟨(?_ : _ = ([] : List (List T))), ?_⟩ | fail))
      all_goals rfl
    | true =>
      have e : ansAs sv k r d v = ⟨sv.Id, r, v, (b ^^^ 128) :: l, ansMac k ⟨sv.Id, r, v, (b ^^^ 128) :: l, ansMac k ⟨sv.Id, r, v, b :: l, 0⟩⟩⟩ := by unfold ansAs; rw [h1, h2, e2]; rfl
      have h3 := of_decide_eq_true h2
      have hx := flip_run b
      rw [e]
      refine fn_of Tryz.func27 rfl (by kernel_rfl) rfl ?_
      all_goals repeat' (first | (with_reducible rfl) | ((conv => whnf); first | refine ⟨_, hs, ?_⟩ | refine bcase_T (by rw [beq_iff_eq]; exact h3) ?_ | refine ⟨0, rfl, (by simp), ?_⟩ | refine ⟨eU b, rfl, ?_⟩ | refine ⟨eU b, rfl, ⟨rfl, Nat.le_of_ble_eq_true rfl⟩, ?_⟩ | (refine Or.inr ⟨rfl, Or.inr (Or.inr ?_)⟩; (conv => whnf); refine jat_ Tryz.func69 rfl (by kernel_rfl) (by rfl) (by rfl) ?_) | refine ⟨_, fn_args (c_AnswerMAC k ⟨sv.Id, r, v, (b ^^^ 128) :: l, ansMac k ⟨sv.Id, r, v, b :: l, 0⟩⟩ hv hq) (by rw [show DSignedAnswer.e ⟨sv.Id, r, v, (b ^^^ 128) :: l, ansMac k ⟨sv.Id, r, v, b :: l, 0⟩⟩ = [I sv.Id, I r, L eI v, T.lst ([U8 ((b ^^^ 128).toNat : Int)] :: l.map eU), I (ansMac k ⟨sv.Id, r, v, b :: l, 0⟩)] from rfl, ← hx]; rfl), ?_⟩ | exact trivial | (with_reducible rfl) | exact (rfl : (0 : Int) = ((0 : Nat) : Int)) | exact w64_nat arith | refine bcase_T (by first | with_reducible rfl | decide) ?_ | refine bcase_F (by first | with_reducible rfl | decide) ?_ | refine bcase_dec (fun _ => ?_) (fun _ => ?_) | refine bcase_not ?_ | refine bcase_intro (fun _ => ?_) (fun _ => ?_) | refine ⟨(by with_reducible rfl), ?_⟩ | refine ⟨congrArg vi ?_, ?_⟩ | refine ⟨congrArg vb ?_, ?_⟩ | refine ⟨rfl, ?_⟩ | refine ⟨(by kernel_rfl : drawOK _ = true), ?_⟩ | refine Or.inl ?_ | refine ⟨⟨congrArg (T.int _) ?_, rfl⟩, ?_⟩ | refine ⟨⟨congrArg T.bool ?_, rfl⟩, ?_⟩ | refine ⟨⟨rfl, Nat.le_of_ble_eq_true rfl⟩, ?_⟩ | refine ⟨⟨rfl, rfl⟩, ?_⟩ | refine ⟨⟨rfl, (by decide)⟩, ?_⟩ | refine ⟨⟨rfl, ?_⟩, ?_⟩ | refine ⟨Or.inr rfl, ?_⟩ | refine ⟨Or.inl rfl, ?_⟩ | refine ⟨⟨⟨rfl, rfl, rfl⟩, ?_⟩, ?_⟩ | refine ⟨_, _, rfl, row_get _ _ arith, rfl, ?_⟩ | refine ⟨Or.inr (by repeat (first | exact trivial | refine ⟨rfl, ?_⟩)), ?_⟩ | refine ⟨(?_ : _ = ([] : List (List T))), ?_⟩ | fail))
      all_goals first
        | rfl
        | (rw [hx]; rfl)
        | skip
theorem c_sAnswerAs (sv : DServer) (k r : Int) (d : DDatabase) (v : List Int) (h : bigB d.Rows) (hv : v.length ≤ 500000000000) (hq : (ansQ d v).length ≤ 500000000000) : FnAt Tryz.prog 50 [.agg (DServer.e sv), .one (I k), .one (I r), .agg (DDatabase.e d), .one (L eI v)] [.agg (DSignedAnswer.r (ansAs sv k r d v)), .one (.s (.bool (ansOk d v)))] := by
  cases h1 : ansOk d v with
  | false =>
    have e : ansAs sv k r d v = signAns k sv.Id r d v := by unfold ansAs; rw [h1]; rfl
    have e2 : signAns k sv.Id r d v = ⟨0, 0, [], [], 0⟩ := by unfold signAns; rw [h1]; rfl
    have hs := c_sSignAnswer k sv.Id r d v h hv hq
    rw [h1, e2] at hs
    rw [e, e2]
    refine fn_of Tryz.func50 rfl (by kernel_rfl) rfl ?_
    all_goals repeat' (first | (with_reducible rfl) | ((conv => whnf); first | refine ⟨_, hs, ?_⟩ | exact trivial | (with_reducible rfl) | exact (rfl : (0 : Int) = ((0 : Nat) : Int)) | exact w64_nat arith | refine bcase_T (by first | with_reducible rfl | decide) ?_ | refine bcase_F (by first | with_reducible rfl | decide) ?_ | refine bcase_dec (fun _ => ?_) (fun _ => ?_) | refine bcase_not ?_ | refine bcase_intro (fun _ => ?_) (fun _ => ?_) | refine ⟨(by with_reducible rfl), ?_⟩ | refine ⟨congrArg vi ?_, ?_⟩ | refine ⟨congrArg vb ?_, ?_⟩ | refine ⟨rfl, ?_⟩ | refine ⟨(by kernel_rfl : drawOK _ = true), ?_⟩ | refine Or.inl ?_ | refine ⟨⟨congrArg (T.int _) ?_, rfl⟩, ?_⟩ | refine ⟨⟨congrArg T.bool ?_, rfl⟩, ?_⟩ | refine ⟨⟨rfl, Nat.le_of_ble_eq_true rfl⟩, ?_⟩ | refine ⟨⟨rfl, rfl⟩, ?_⟩ | refine ⟨⟨rfl, (by decide)⟩, ?_⟩ | refine ⟨⟨rfl, ?_⟩, ?_⟩ | refine ⟨Or.inr rfl, ?_⟩ | refine ⟨Or.inl rfl, ?_⟩ | refine ⟨⟨⟨rfl, rfl, rfl⟩, ?_⟩, ?_⟩ | refine ⟨_, _, rfl, row_get _ _ arith, rfl, ?_⟩ | refine ⟨Or.inr (by repeat (first | exact trivial | refine ⟨rfl, ?_⟩)), ?_⟩ | refine ⟨(?_ : _ = ([] : List (List T))), ?_⟩ | fail))
    all_goals rfl
  | true =>
    obtain ⟨b, l, hbl⟩ := ansQ_cons h1
    have e2 : signAns k sv.Id r d v = ⟨sv.Id, r, v, b :: l, ansMac k ⟨sv.Id, r, v, b :: l, 0⟩⟩ := by unfold signAns; rw [h1, ← hbl]; rfl
    have hs := c_sSignAnswer k sv.Id r d v h hv hq
    rw [h1, e2] at hs
    rw [hbl] at hq
    cases h2 : decide (sv.Behavior = 3) with
    | false =>
      have e : ansAs sv k r d v = ⟨sv.Id, r, v, b :: l, ansMac k ⟨sv.Id, r, v, b :: l, 0⟩⟩ := by unfold ansAs; rw [h1, h2, e2]; rfl
      have h3 := of_decide_eq_false h2
      rw [e]
      refine fn_of Tryz.func50 rfl (by kernel_rfl) rfl ?_
      all_goals repeat' (first | (with_reducible rfl) | ((conv => whnf); first | refine ⟨_, hs, ?_⟩ | refine bcase_F (by rw [beq_eq_false_iff_ne]; exact h3) ?_ | exact trivial | (with_reducible rfl) | exact (rfl : (0 : Int) = ((0 : Nat) : Int)) | exact w64_nat arith | refine bcase_T (by first | with_reducible rfl | decide) ?_ | refine bcase_F (by first | with_reducible rfl | decide) ?_ | refine bcase_dec (fun _ => ?_) (fun _ => ?_) | refine bcase_not ?_ | refine bcase_intro (fun _ => ?_) (fun _ => ?_) | refine ⟨(by with_reducible rfl), ?_⟩ | refine ⟨congrArg vi ?_, ?_⟩ | refine ⟨congrArg vb ?_, ?_⟩ | refine ⟨rfl, ?_⟩ | refine ⟨(by kernel_rfl : drawOK _ = true), ?_⟩ | refine Or.inl ?_ | refine ⟨⟨congrArg (T.int _) ?_, rfl⟩, ?_⟩ | refine ⟨⟨congrArg T.bool ?_, rfl⟩, ?_⟩ | refine ⟨⟨rfl, Nat.le_of_ble_eq_true rfl⟩, ?_⟩ | refine ⟨⟨rfl, rfl⟩, ?_⟩ | refine ⟨⟨rfl, (by decide)⟩, ?_⟩ | refine ⟨⟨rfl, ?_⟩, ?_⟩ | refine ⟨Or.inr rfl, ?_⟩ | refine ⟨Or.inl rfl, ?_⟩ | refine ⟨⟨⟨rfl, rfl, rfl⟩, ?_⟩, ?_⟩ | refine ⟨_, _, rfl, row_get _ _ arith, rfl, ?_⟩ | refine ⟨Or.inr (by repeat (first | exact trivial | refine ⟨rfl, ?_⟩)), ?_⟩ | refine ⟨(?_ : _ = ([] : List (List T))), ?_⟩ | fail))
      all_goals rfl
    | true =>
      have e : ansAs sv k r d v = ⟨sv.Id, r, v, (b ^^^ 128) :: l, ansMac k ⟨sv.Id, r, v, (b ^^^ 128) :: l, ansMac k ⟨sv.Id, r, v, b :: l, 0⟩⟩⟩ := by unfold ansAs; rw [h1, h2, e2]; rfl
      have h3 := of_decide_eq_true h2
      have hx := flip_run b
      rw [e]
      refine fn_of Tryz.func50 rfl (by kernel_rfl) rfl ?_
      all_goals repeat' (first | (with_reducible rfl) | ((conv => whnf); first | refine ⟨_, hs, ?_⟩ | refine bcase_T (by rw [beq_iff_eq]; exact h3) ?_ | refine ⟨0, rfl, (by simp), ?_⟩ | refine ⟨eU b, rfl, ?_⟩ | refine ⟨eU b, rfl, ⟨rfl, Nat.le_of_ble_eq_true rfl⟩, ?_⟩ | refine ⟨_, fn_args (c_sAnswerMAC k ⟨sv.Id, r, v, (b ^^^ 128) :: l, ansMac k ⟨sv.Id, r, v, b :: l, 0⟩⟩ hv hq) (by rw [show DSignedAnswer.e ⟨sv.Id, r, v, (b ^^^ 128) :: l, ansMac k ⟨sv.Id, r, v, b :: l, 0⟩⟩ = [I sv.Id, I r, L eI v, T.lst ([U8 ((b ^^^ 128).toNat : Int)] :: l.map eU), I (ansMac k ⟨sv.Id, r, v, b :: l, 0⟩)] from rfl, ← hx]; rfl), ?_⟩ | exact trivial | (with_reducible rfl) | exact (rfl : (0 : Int) = ((0 : Nat) : Int)) | exact w64_nat arith | refine bcase_T (by first | with_reducible rfl | decide) ?_ | refine bcase_F (by first | with_reducible rfl | decide) ?_ | refine bcase_dec (fun _ => ?_) (fun _ => ?_) | refine bcase_not ?_ | refine bcase_intro (fun _ => ?_) (fun _ => ?_) | refine ⟨(by with_reducible rfl), ?_⟩ | refine ⟨congrArg vi ?_, ?_⟩ | refine ⟨congrArg vb ?_, ?_⟩ | refine ⟨rfl, ?_⟩ | refine ⟨(by kernel_rfl : drawOK _ = true), ?_⟩ | refine Or.inl ?_ | refine ⟨⟨congrArg (T.int _) ?_, rfl⟩, ?_⟩ | refine ⟨⟨congrArg T.bool ?_, rfl⟩, ?_⟩ | refine ⟨⟨rfl, Nat.le_of_ble_eq_true rfl⟩, ?_⟩ | refine ⟨⟨rfl, rfl⟩, ?_⟩ | refine ⟨⟨rfl, (by decide)⟩, ?_⟩ | refine ⟨⟨rfl, ?_⟩, ?_⟩ | refine ⟨Or.inr rfl, ?_⟩ | refine ⟨Or.inl rfl, ?_⟩ | refine ⟨⟨⟨rfl, rfl, rfl⟩, ?_⟩, ?_⟩ | refine ⟨_, _, rfl, row_get _ _ arith, rfl, ?_⟩ | refine ⟨Or.inr (by repeat (first | exact trivial | refine ⟨rfl, ?_⟩)), ?_⟩ | refine ⟨(?_ : _ = ([] : List (List T))), ?_⟩ | fail))
      all_goals first
        | rfl
        | (rw [hx]; rfl)
        | skip
end Go.Proofs.YtmaamiapipngaaaGreat
