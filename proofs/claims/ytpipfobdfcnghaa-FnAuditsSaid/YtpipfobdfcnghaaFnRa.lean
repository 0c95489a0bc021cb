/-
  Contract: in a round that a code draws a server that hides or exchanges a share for which there is a receipt is found guilty.
  Conditions: none.
-/
import Derived.Test.YtpipfobdfcnghaaFnRs
import Derived.Test.YtpipfobdfcnghaaFnCx
namespace Go.Proofs.Ytpipfobdfcnghaa
set_option maxHeartbeats 4000000
set_option maxRecDepth 20000
open Go.Vm Go.RowKit
attribute [local irreducible] FnAt MutAt InAt JAt CurAt FnE CurE RegAt

attribute [local irreducible] shareDig rcMac servKey newServer makeW rcv rcvOk mkRcpt pubS nwC rdM audit
theorem c_bigU (b : List UInt8) : FnAt Try.prog 5 [.one (L eU b)] [.one (.s (.bool (decide (1048576 < (b.length : Int)))))] := by
  have hm := lenm eU b
  refine fn_of Try.func5 rfl (by kernel_rfl) rfl ?_
  all_goals repeat' (first | (with_reducible rfl) | ((conv => whnf); first | exact trivial | (with_reducible rfl) | exact (rfl : (0 : Int) = ((0 : Nat) : Int)) | exact w64_nat arith | refine bcase_T (by first | with_reducible rfl | decide) ?_ | refine bcase_F (by first | with_reducible rfl | decide) ?_ | refine bcase_dec (fun _ => ?_) (fun _ => ?_) | refine bcase_not ?_ | refine bcase_intro (fun _ => ?_) (fun _ => ?_) | refine ⟨(by with_reducible rfl), ?_⟩ | refine ⟨congrArg vi ?_, ?_⟩ | refine ⟨congrArg vb ?_, ?_⟩ | refine ⟨rfl, ?_⟩ | refine ⟨(by kernel_rfl : drawOK _ = true), ?_⟩ | refine Or.inl ?_ | refine ⟨⟨congrArg (T.int _) ?_, rfl⟩, ?_⟩ | refine ⟨⟨congrArg T.bool ?_, rfl⟩, ?_⟩ | refine ⟨⟨rfl, Nat.le_of_ble_eq_true rfl⟩, ?_⟩ | refine ⟨⟨rfl, rfl⟩, ?_⟩ | refine ⟨⟨rfl, (by decide)⟩, ?_⟩ | refine ⟨⟨rfl, ?_⟩, ?_⟩ | refine ⟨Or.inr rfl, ?_⟩ | refine ⟨Or.inl rfl, ?_⟩ | refine ⟨⟨⟨rfl, rfl, rfl⟩, ?_⟩, ?_⟩ | refine ⟨_, _, rfl, row_get _ _ arith, rfl, ?_⟩ | refine ⟨Or.inr (by repeat (first | exact trivial | refine ⟨rfl, ?_⟩)), ?_⟩ | refine ⟨(?_ : _ = ([] : List (List T))), ?_⟩ | fail))
  all_goals (rw [hm])
theorem RD.ok.bigU {M : Int} {x : RD} (h : x.ok M) : bigTs x.sv ∧ bigL (x.sv.map pubS) := by
  have hl := h.r.len
  have hn := h.n
  have hR := h.R
  have h1 : ∀ s ∈ x.sv, bigT s := fun s hs => by
    obtain ⟨i, hi, rfl⟩ := List.mem_iff_getElem.1 hs
    exact ((h.r.srv i hi).big (by omega) (by decide)).1
  exact ⟨⟨by omega, h1⟩, ⟨by rw [List.length_map]; omega, fun d hd => by
    obtain ⟨s, hs, rfl⟩ := List.mem_map.1 hd
    exact pubS_big s (h1 s hs).1⟩⟩
def hidS (s : DServer) : DServer := ⟨s.Id, s.Rows, s.Round, s.Received.drop 1, s.Behavior⟩
def othS (s : DServer) (c : Int) : DServer := ⟨s.Id, s.Rows, s.Round, s.Received.set 0 ⟨c, newDb s.Rows⟩, s.Behavior⟩
section
variable {M R : Int} {n : Nat} {sv : List DServer} {rc : List DReceipt}
theorem hid_one (h : RnI M R n (fun _ => 0) sv rc) (h0 : 0 < sv.length) {r0 : DReceivedShare} {rest : List DReceivedShare} (hr : sv[0].Received = r0 :: rest) (p : DDatabase) : audit (servKey M sv[0].Id) (hidS sv[0]) p rc = 1 := by
  have hs := h.srv 0 h0
  have hord := hs.ord
  rw [hr, List.pairwise_cons] at hord
  have he : (hidS sv[0]).Received = rest := by show sv[0].Received.drop 1 = rest; rw [hr]; rfl
  rw [hs.id]
  refine audit_miss (fun q hq hh hsh => ?_) ⟨mkRcpt (servKey M (0 : Nat)) (0 : Nat) r0.Client 0 r0.Share, h.rc1 0 h0 r0 (by rw [hr]; simp), mkRcpt_hit (s := hidS sv[0]) hs.id hs.round, ?_⟩
  · obtain ⟨r, hrm, rfl⟩ := h.hit h0 (s := hidS sv[0]) rfl hq hh
    rw [mkRcpt_def] at hsh ⊢
    have hsh' : shareHas (hidS sv[0]) r.Client = true := hsh
    show shareDig r.Client 0 r.Share = shareDig r.Client 0 (shareOf (hidS sv[0]) r.Client)
    rw [hr] at hrm
    rcases List.mem_cons.1 hrm with rfl | hrm
    · unfold shareHas at hsh'
      rw [he, findS_none hord.1] at hsh'
      cases hsh'
    · have hf := findS_at hord.2 hrm
      unfold shareOf; rw [he, hf]
  · rw [mkRcpt_def]
    show shareHas (hidS sv[0]) r0.Client = false
    unfold shareHas
    rw [he, findS_none hord.1]; rfl
theorem oth_two (h : RnI M R n (fun _ => 0) sv rc) (hR : 1 ≤ R ∧ R ≤ 3) (h0 : 0 < sv.length) {r0 : DReceivedShare} {rest : List DReceivedShare} (hr : sv[0].Received = r0 :: rest) (p : DDatabase) : audit (servKey M sv[0].Id) (othS sv[0] r0.Client) p rc = 2 := by
  have hs := h.srv 0 h0
  have hord := hs.ord
  rw [hr, List.pairwise_cons] at hord
  have he : (othS sv[0] r0.Client).Received = ⟨r0.Client, newDb R⟩ :: rest := by
    show sv[0].Received.set 0 ⟨r0.Client, newDb sv[0].Rows⟩ = _
    rw [hr, hs.rows]; rfl
  have hf0 : findS ((othS sv[0] r0.Client).Received) r0.Client = some ⟨r0.Client, newDb R⟩ := by
    rw [he]; unfold findS; rw [List.find?_cons, decide_eq_true rfl]
  rw [hs.id]
  refine audit_wrong (fun q hq hh => ?_) ⟨mkRcpt (servKey M (0 : Nat)) (0 : Nat) r0.Client 0 r0.Share, h.rc1 0 h0 r0 (by rw [hr]; simp), mkRcpt_hit (s := othS sv[0] r0.Client) hs.id hs.round, ?_⟩
  · obtain ⟨r, hrm, rfl⟩ := h.hit h0 (s := othS sv[0] r0.Client) rfl hq hh
    rw [mkRcpt_def]
    show shareHas (othS sv[0] r0.Client) r.Client = true
    rw [hr] at hrm
    unfold shareHas
    rcases List.mem_cons.1 hrm with rfl | hrm
    · rw [hf0]; rfl
    · have h2 : findS rest r.Client = some r := findS_at hord.2 hrm
      have h3 := hord.1 r hrm
      rw [he]
      unfold findS at h2 ⊢
      rw [List.find?_cons, decide_eq_false (show ¬ r0.Client = r.Client by omega)]
      simp only []
      rw [h2]; rfl
  · rw [mkRcpt_def]
    obtain ⟨sd, k1, k2, k3⟩ := hs.ze rfl r0 (by rw [hr]; simp)
    show ¬ shareDig r0.Client 0 r0.Share = shareDig r0.Client 0 (shareOf (othS sv[0] r0.Client) r0.Client)
    unfold shareOf
    rw [hf0, k3]
    exact share_apart hR k1 k2
end
theorem hid_big {s : DServer} (h : bigT s) : bigT (hidS s) := by
  refine ⟨⟨?_, fun r hr => h.1.2 r (List.mem_of_mem_drop hr)⟩, fun r hr => h.2 r (List.mem_of_mem_drop hr)⟩
  show (s.Received.drop 1).length ≤ _
  have := h.1.1
  rw [List.length_drop]; omega
theorem oth_big {s : DServer} {c : Int} (h : bigT s) (hr : 1 ≤ s.Rows ∧ s.Rows ≤ 3) : bigT (othS s c) := by
  have hz : ∀ r ∈ (othS s c).Received, r ∈ s.Received ∨ r = ⟨c, newDb s.Rows⟩ := fun r hr => List.mem_or_eq_of_mem_set hr
  refine ⟨⟨?_, fun r hr => ?_⟩, fun r hr2 => ?_⟩
  · show (s.Received.set 0 _).length ≤ _
    rw [List.length_set]; exact h.1.1
  · rcases hz r hr with h1 | rfl
    · exact h.1.2 r h1
    · exact newDb_big _
  · rcases hz r hr2 with h1 | rfl
    · exact h.2 r h1
    · have hn : newDb s.Rows = ⟨List.replicate s.Rows.toNat zero24⟩ := by unfold newDb; rw [if_pos (inR_iff.2 (by omega))]
      show szL List.length (newDb s.Rows).Rows ≤ _
      rw [hn]
      unfold szL
      rw [full_szL (fun x hx => by rw [(List.mem_replicate.1 hx).2]; exact List.length_replicate), List.length_replicate]
      omega
theorem lenRS (l : List DReceivedShare) : ∀ r ∈ l.map DReceivedShare.e, r.length = 2 := fun r hr => by
  obtain ⟨x, _, rfl⟩ := List.mem_map.1 hr
  rfl
theorem lenRSd (l : List DReceivedShare) {h k : Nat} : ∀ r ∈ ((l.map DReceivedShare.e).take h).drop k, r.length = 2 := fun r hr => lenRS l r (List.mem_of_mem_take (List.mem_of_mem_drop hr))
theorem rsb {l : List DReceivedShare} {h k : Nat} (hl : l.length ≤ 3) : (0 + (((l.map DReceivedShare.e).take h).drop k).length) * 32 ≤ 140737488355328 ∧ 0 + (((l.map DReceivedShare.e).take h).drop k).length ≤ 140737488355328 := by
  rw [List.length_drop, List.length_take, List.length_map]; omega
theorem rsb2 {l : List DReceivedShare} (hl : l.length ≤ 3) : (0 + (l.map DReceivedShare.e).length) * 32 ≤ 140737488355328 ∧ 0 + (l.map DReceivedShare.e).length ≤ 140737488355328 := by
  rw [List.length_map]; omega
theorem c_FnAudits (a0 : List UInt8) (_ : a0.length ≤ maxLen) : FnAt Try.prog 3 [.one (L eU a0)] [.one (.s (.bool true))] := by
  by_cases hb : a0.length ≤ 1048576
  case neg =>
    refine fn_of Try.func3 rfl (by kernel_rfl) rfl ?_
    all_goals repeat' (first | (with_reducible rfl) | ((conv => whnf); first | refine ⟨_, c_bigU a0, ?_⟩ | refine bcase_T (by rw [decide_eq_true_eq]; omega) ?_ | exact trivial | (with_reducible rfl) | exact (rfl : (0 : Int) = ((0 : Nat) : Int)) | exact w64_nat arith | refine bcase_T (by first | with_reducible rfl | decide) ?_ | refine bcase_F (by first | with_reducible rfl | decide) ?_ | refine bcase_dec (fun _ => ?_) (fun _ => ?_) | refine bcase_not ?_ | refine bcase_intro (fun _ => ?_) (fun _ => ?_) | refine ⟨(by with_reducible rfl), ?_⟩ | refine ⟨congrArg vi ?_, ?_⟩ | refine ⟨congrArg vb ?_, ?_⟩ | refine ⟨rfl, ?_⟩ | refine ⟨(by kernel_rfl : drawOK _ = true), ?_⟩ | refine Or.inl ?_ | refine ⟨⟨congrArg (T.int _) ?_, rfl⟩, ?_⟩ | refine ⟨⟨congrArg T.bool ?_, rfl⟩, ?_⟩ | refine ⟨⟨rfl, Nat.le_of_ble_eq_true rfl⟩, ?_⟩ | refine ⟨⟨rfl, rfl⟩, ?_⟩ | refine ⟨⟨rfl, (by decide)⟩, ?_⟩ | refine ⟨⟨rfl, ?_⟩, ?_⟩ | refine ⟨Or.inr rfl, ?_⟩ | refine ⟨Or.inl rfl, ?_⟩ | refine ⟨⟨⟨rfl, rfl, rfl⟩, ?_⟩, ?_⟩ | refine ⟨_, _, rfl, row_get _ _ arith, rfl, ?_⟩ | refine ⟨Or.inr (by repeat (first | exact trivial | refine ⟨rfl, ?_⟩)), ?_⟩ | refine ⟨(?_ : _ = ([] : List (List T))), ?_⟩ | fail))
  refine fn_of Try.func3 rfl (by kernel_rfl) rfl ?_
  all_goals repeat' (first | (with_reducible rfl) | ((conv => whnf); first | refine ⟨_, c_bigU a0, ?_⟩ | refine bcase_F (by rw [decide_eq_false_iff_not]; omega) ?_ | (have hq := hmark; (refine Or.inr ⟨rfl, Or.inl ?_⟩; (conv => whnf); refine inAt_fnK ?_ (e_DrawServed a0 hb) (by rfl); rintro ⟨M2, R2, n2, sv2, rc2, c2⟩ hx2); clear hmark) | ((refine Or.inr ⟨rfl, Or.inl ?_⟩; (conv => whnf); refine inAt_fnK ?_ (e_DrawServed a0 hb) (by rfl); rintro ⟨M, R, n, sv, rc, c⟩ hx); have hmark : (0 : Nat) = 0 := rfl) | exact trivial | (with_reducible rfl) | exact (rfl : (0 : Int) = ((0 : Nat) : Int)) | exact w64_nat arith | refine bcase_T (by first | with_reducible rfl | decide) ?_ | refine bcase_F (by first | with_reducible rfl | decide) ?_ | refine bcase_dec (fun _ => ?_) (fun _ => ?_) | refine bcase_not ?_ | refine bcase_intro (fun _ => ?_) (fun _ => ?_) | refine ⟨(by with_reducible rfl), ?_⟩ | refine ⟨congrArg vi ?_, ?_⟩ | refine ⟨congrArg vb ?_, ?_⟩ | refine ⟨rfl, ?_⟩ | refine ⟨(by kernel_rfl : drawOK _ = true), ?_⟩ | refine Or.inl ?_ | refine ⟨⟨congrArg (T.int _) ?_, rfl⟩, ?_⟩ | refine ⟨⟨congrArg T.bool ?_, rfl⟩, ?_⟩ | refine ⟨⟨rfl, Nat.le_of_ble_eq_true rfl⟩, ?_⟩ | refine ⟨⟨rfl, rfl⟩, ?_⟩ | refine ⟨⟨rfl, (by decide)⟩, ?_⟩ | refine ⟨⟨rfl, ?_⟩, ?_⟩ | refine ⟨Or.inr rfl, ?_⟩ | refine ⟨Or.inl rfl, ?_⟩ | refine ⟨⟨⟨rfl, rfl, rfl⟩, ?_⟩, ?_⟩ | refine ⟨_, _, rfl, row_get _ _ arith, rfl, ?_⟩ | refine ⟨Or.inr (by repeat (first | exact trivial | refine ⟨rfl, ?_⟩)), ?_⟩ | refine ⟨(?_ : _ = ([] : List (List T))), ?_⟩ | fail))
  have hM : M = rdM a0 := hx.M
  have hM2 : M2 = rdM a0 := hx2.M
  rw [← hM] at hM2
  subst hM2
  have hbg := hx.bigU
  dsimp only at hbg
  have hR : 1 ≤ R ∧ R ≤ 3 := hx.R
  have hn : 2 ≤ n ∧ n ≤ 3 := hx.n
  have hr : RnI M2 R n (fun _ => 0) sv rc := hx.r
  have hrl : rc.length ≤ 9 := hx.len
  have hl := hr.len
  have h0 : 0 < sv.length := by omega
  have hp0 : 0 < (sv.map pubS).length := by rw [List.length_map]; exact h0
  have hms := lenm DServer.e sv
  have hmp := lenm DDatabase.e (sv.map pubS)
  have hs := hr.srv 0 h0
  have hT := hbg.1.2 _ (List.getElem_mem h0)
  have hpb := hbg.2.2 _ (List.getElem_mem hp0)
  have hmr := lenm DReceivedShare.e sv[0].Received
  cases hrec : sv[0].Received with
  | nil =>
    have hz : sv[0].Received.length = 0 := by rw [hrec]; rfl
    all_goals repeat' (first | (with_reducible rfl) | ((conv => whnf); first | refine ⟨0, rfl, (by first | (rw [hms]; exact h0) | (rw [hmp]; exact hp0)), ?_⟩ | refine ⟨_, row_get DServer.e sv h0, ?_⟩ | refine ⟨_, row_get DDatabase.e (sv.map pubS) hp0, ?_⟩ | refine ⟨_, c_sServerKey M2 sv[0].Id, ?_⟩ | refine bcase_T (by rw [hmr, hz]; rfl) ?_ | refine ⟨_, c_AuditServer (servKey M2 sv[0].Id) sv[0] (sv.map pubS)[0] rc hT hpb (by omega), ?_⟩ | refine ⟨_, c_sAuditServer (servKey M2 sv[0].Id) sv[0] (sv.map pubS)[0] rc hT hpb (by omega), ?_⟩ | exact trivial | (with_reducible rfl) | exact (rfl : (0 : Int) = ((0 : Nat) : Int)) | exact w64_nat arith | refine bcase_T (by first | with_reducible rfl | decide) ?_ | refine bcase_F (by first | with_reducible rfl | decide) ?_ | refine bcase_dec (fun _ => ?_) (fun _ => ?_) | refine bcase_not ?_ | refine bcase_intro (fun _ => ?_) (fun _ => ?_) | refine ⟨(by with_reducible rfl), ?_⟩ | refine ⟨congrArg vi ?_, ?_⟩ | refine ⟨congrArg vb ?_, ?_⟩ | refine ⟨rfl, ?_⟩ | refine ⟨(by kernel_rfl : drawOK _ = true), ?_⟩ | refine Or.inl ?_ | refine ⟨⟨congrArg (T.int _) ?_, rfl⟩, ?_⟩ | refine ⟨⟨congrArg T.bool ?_, rfl⟩, ?_⟩ | refine ⟨⟨rfl, Nat.le_of_ble_eq_true rfl⟩, ?_⟩ | refine ⟨⟨rfl, rfl⟩, ?_⟩ | refine ⟨⟨rfl, (by decide)⟩, ?_⟩ | refine ⟨⟨rfl, ?_⟩, ?_⟩ | refine ⟨Or.inr rfl, ?_⟩ | refine ⟨Or.inl rfl, ?_⟩ | refine ⟨⟨⟨rfl, rfl, rfl⟩, ?_⟩, ?_⟩ | refine ⟨_, _, rfl, row_get _ _ arith, rfl, ?_⟩ | refine ⟨Or.inr (by repeat (first | exact trivial | refine ⟨rfl, ?_⟩)), ?_⟩ | refine ⟨(?_ : _ = ([] : List (List T))), ?_⟩ | fail))
    all_goals exact beq_self_eq_true _
  | cons r0 rest =>
    have hz : ¬ sv[0].Received.length = 0 := by rw [hrec]; simp
    have hle : sv[0].Received.length ≤ 3 := (hs.big (by omega) (by decide)).2
    have hidx : 0 < sv[0].Received.length := by omega
    have hc0 : sv[0].Received[0] = r0 := by
      have := List.getElem_of_eq hrec hidx
      simpa using this
    have hA1 : FnAt Try.prog 8 [.one (I (servKey M2 sv[0].Id)), .agg [I sv[0].Id, I sv[0].Rows, I sv[0].Round, T.lst ((((sv[0].Received).map DReceivedShare.e).take ((sv[0].Received).map DReceivedShare.e).length).drop 1), I sv[0].Behavior], .agg (DDatabase.e (sv.map pubS)[0]), .one (L DReceipt.e rc)] [.one (.s (I 1))] := by
      have h := c_AuditServer (servKey M2 sv[0].Id) (hidS sv[0]) (sv.map pubS)[0] rc (hid_big hT) hpb (by omega)
      rw [hid_one hr h0 hrec] at h
      have e : DServer.e (hidS sv[0]) = [I sv[0].Id, I sv[0].Rows, I sv[0].Round, T.lst ((((sv[0].Received).map DReceivedShare.e).take ((sv[0].Received).map DReceivedShare.e).length).drop 1), I sv[0].Behavior] := by
        rw [List.take_length, ← List.map_drop]; rfl
      rw [e] at h
      exact h
    have hA2 : FnAt Try.prog 8 [.one (I (servKey M2 sv[0].Id)), .agg [I sv[0].Id, I sv[0].Rows, I sv[0].Round, T.lst (((sv[0].Received).map DReceivedShare.e).set 0 [I sv[0].Received[0].Client, T.lst ((newDb sv[0].Rows).Rows.map (eL eU))]), I sv[0].Behavior], .agg (DDatabase.e (sv.map pubS)[0]), .one (L DReceipt.e rc)] [.one (.s (I 2))] := by
      have h := c_AuditServer (servKey M2 sv[0].Id) (othS sv[0] r0.Client) (sv.map pubS)[0] rc (oth_big hT (by rw [hs.rows]; exact hR)) hpb (by omega)
      rw [oth_two hr hR h0 hrec] at h
      have e : DServer.e (othS sv[0] r0.Client) = [I sv[0].Id, I sv[0].Rows, I sv[0].Round, T.lst (((sv[0].Received).map DReceivedShare.e).set 0 [I sv[0].Received[0].Client, T.lst ((newDb sv[0].Rows).Rows.map (eL eU))]), I sv[0].Behavior] := by
        rw [hc0]
        have e2 : ((sv[0].Received).map DReceivedShare.e).set 0 [I r0.Client, T.lst ((newDb sv[0].Rows).Rows.map (eL eU))] = (sv[0].Received.set 0 ⟨r0.Client, newDb sv[0].Rows⟩).map DReceivedShare.e := by rw [List.map_set]; rfl
        rw [e2]; rfl
      rw [e] at h
      exact h
    all_goals repeat' (first | (with_reducible rfl) | ((conv => whnf); first | refine ⟨0, rfl, (by first | (rw [hms]; exact h0) | (rw [hmp]; exact hp0)), ?_⟩ | refine ⟨_, row_get DServer.e sv h0, ?_⟩ | refine ⟨_, row_get DDatabase.e (sv.map pubS) hp0, ?_⟩ | refine ⟨_, c_sServerKey M2 sv[0].Id, ?_⟩ | refine bcase_F (by rw [hmr]; exact beq_eq_false_iff_ne.2 (by omega)) ?_ | refine ⟨1, _, rfl, rfl, ⟨(by rw [hmr]; omega), Nat.le_refl _⟩, lenRS _, ?_⟩ | refine ⟨false, (fun h => by cases h), lenRSd _, rsb (by omega), ?_⟩ | refine ⟨false, (fun h => by cases h), lenRS _, rsb2 (by omega), ?_⟩ | refine ⟨_, hA1, ?_⟩ | refine ⟨_, hA2, ?_⟩ | refine bcase_T (beq_self_eq_true _) ?_ | refine ⟨_, c_AuditName1, ?_⟩ | refine ⟨_, c_AuditName2, ?_⟩ | refine ⟨_, c_AuditName9, ?_⟩ | refine ⟨_, c_NewDatabase sv[0].Rows, ?_⟩ | refine ⟨0, rfl, (by show 0 < (List.map DReceivedShare.e sv[0].Received).length; rw [hmr]; omega), ?_⟩ | refine ⟨rfl, _, row_get DReceivedShare.e sv[0].Received (i := 0) (by omega), ?_⟩ | exact trivial | (with_reducible rfl) | exact (rfl : (0 : Int) = ((0 : Nat) : Int)) | exact w64_nat arith | refine bcase_T (by first | with_reducible rfl | decide) ?_ | refine bcase_F (by first | with_reducible rfl | decide) ?_ | refine bcase_dec (fun _ => ?_) (fun _ => ?_) | refine bcase_not ?_ | refine bcase_intro (fun _ => ?_) (fun _ => ?_) | refine ⟨(by with_reducible rfl), ?_⟩ | refine ⟨congrArg vi ?_, ?_⟩ | refine ⟨congrArg vb ?_, ?_⟩ | refine ⟨rfl, ?_⟩ | refine ⟨(by kernel_rfl : drawOK _ = true), ?_⟩ | refine Or.inl ?_ | refine ⟨⟨congrArg (T.int _) ?_, rfl⟩, ?_⟩ | refine ⟨⟨congrArg T.bool ?_, rfl⟩, ?_⟩ | refine ⟨⟨rfl, Nat.le_of_ble_eq_true rfl⟩, ?_⟩ | refine ⟨⟨rfl, rfl⟩, ?_⟩ | refine ⟨⟨rfl, (by decide)⟩, ?_⟩ | refine ⟨⟨rfl, ?_⟩, ?_⟩ | refine ⟨Or.inr rfl, ?_⟩ | refine ⟨Or.inl rfl, ?_⟩ | refine ⟨⟨⟨rfl, rfl, rfl⟩, ?_⟩, ?_⟩ | refine ⟨_, _, rfl, row_get _ _ arith, rfl, ?_⟩ | refine ⟨Or.inr (by repeat (first | exact trivial | refine ⟨rfl, ?_⟩)), ?_⟩ | refine ⟨(?_ : _ = ([] : List (List T))), ?_⟩ | fail))
    all_goals exact beq_self_eq_true _
end Go.Proofs.Ytpipfobdfcnghaa
