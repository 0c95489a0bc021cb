/-
  Contract: the round that a code draws. Plain law: audits of its servers.
  Conditions: none.
-/
import Derived.Test.YtpipfobdfcnghaaFnRn
import Derived.Test.YtpipfobdfcnghaaFnAv
namespace Go.Proofs.Ytpipfobdfcnghaa
set_option maxHeartbeats 4000000
set_option maxRecDepth 20000
open Go.Vm Go.RowKit
attribute [local irreducible] FnAt MutAt InAt JAt CurAt FnE CurE RegAt

attribute [local irreducible] shareDig rcMac servKey newServer makeW rcv rcvOk mkRcpt pubS nwC
theorem nwC_okR {b : List UInt8} (h : b.length ≤ 1048576) : (nwC b).ok := by unfold nwC; exact ⟨h, Nat.zero_le _⟩
def rdM (b : List UInt8) : Int := IntKind.i64.wrap (1 + beV (nwC b) 99)
theorem e_DrawServed (b : List UInt8) (h : b.length ≤ 1048576) : FnE Try.prog 6 [.one (L eU b)] RD (fun x => [.one (.s (I x.M)), .one (.l 5 (x.sv.map DServer.e)), .one (.l 1 ((x.sv.map pubS).map DDatabase.e)), .one (.l 5 (x.rc.map DReceipt.e))]) (fun x => x.ok (rdM b)) := by
  refine fnE_of Try.func6 rfl (by kernel_rfl) rfl ?_
  all_goals repeat' (first | (with_reducible rfl) | ((conv => whnf); first | (refine Or.inr ⟨rfl, Or.inl ?_⟩; (conv => whnf); refine inAt_new (c_l1New b h) ?_) | (refine Or.inr ⟨rfl, Or.inl ?_⟩; (conv => whnf); refine inAt_curK ?_ (e_l27Round (nwC b) (nwC_okR h)) (by rfl) (by rfl) (by rfl); rintro ⟨M, R, n, sv, rc, c⟩ hx) | refine exQr ⟨M, R, n, sv, rc, c⟩ ?_ hx | exact trivial | (with_reducible rfl) | exact (rfl : (0 : Int) = ((0 : Nat) : Int)) | exact w64_nat arith | refine bcase_T (by first | with_reducible rfl | decide) ?_ | refine bcase_F (by first | with_reducible rfl | decide) ?_ | refine bcase_dec (fun _ => ?_) (fun _ => ?_) | refine bcase_not ?_ | refine bcase_intro (fun _ => ?_) (fun _ => ?_) | refine ⟨(by with_reducible rfl), ?_⟩ | refine ⟨congrArg vi ?_, ?_⟩ | refine ⟨congrArg vb ?_, ?_⟩ | refine ⟨rfl, ?_⟩ | refine ⟨(by kernel_rfl : drawOK _ = true), ?_⟩ | refine Or.inl ?_ | refine ⟨⟨congrArg (T.int _) ?_, rfl⟩, ?_⟩ | refine ⟨⟨congrArg T.bool ?_, rfl⟩, ?_⟩ | refine ⟨⟨rfl, Nat.le_of_ble_eq_true rfl⟩, ?_⟩ | refine ⟨⟨rfl, rfl⟩, ?_⟩ | refine ⟨⟨rfl, (by decide)⟩, ?_⟩ | refine ⟨⟨rfl, ?_⟩, ?_⟩ | refine ⟨Or.inr rfl, ?_⟩ | refine ⟨Or.inl rfl, ?_⟩ | refine ⟨⟨⟨rfl, rfl, rfl⟩, ?_⟩, ?_⟩ | refine ⟨_, _, rfl, row_get _ _ arith, rfl, ?_⟩ | refine ⟨Or.inr (by repeat (first | exact trivial | refine ⟨rfl, ?_⟩)), ?_⟩ | refine ⟨(?_ : _ = ([] : List (List T))), ?_⟩ | fail))
  all_goals rfl
attribute [local irreducible] audit
theorem findS_at {l : List DReceivedShare} (h : l.Pairwise (fun x y => x.Client < y.Client)) {r : DReceivedShare} (hr : r ∈ l) : findS l r.Client = some r := by
  induction l with
  | nil => cases hr
  | cons x l ih =>
    rw [List.pairwise_cons] at h
    unfold findS
    rw [List.find?_cons]
    rcases List.mem_cons.1 hr with rfl | hr
    · rw [decide_eq_true rfl]
    · have := h.1 r hr
      rw [decide_eq_false (by omega)]
      exact ih h.2 hr
theorem findS_none {l : List DReceivedShare} {c : Int} (h : ∀ r ∈ l, c < r.Client) : findS l c = none := by
  unfold findS
  rw [List.find?_eq_none]
  intro r hr
  have := h r hr
  rw [decide_eq_true_eq]; omega
theorem audit_cons (k : Int) (s : DServer) (p : DDatabase) (r : DReceipt) (l : List DReceipt) : audit k s p (r :: l) = if rcHit k s r then (if shareHas s r.Client then (if r.Digest = shareDig r.Client r.Round (shareOf s r.Client) then audit k s p l else 2) else 1) else audit k s p l := by
  rw [audit]
theorem audit_nil (k : Int) (s : DServer) (p : DDatabase) : audit k s p [] = if servOk s && (p.Rows == (sumS s).Rows) then 0 else 3 := by rw [audit]
/-- Every receipt has its share. -/
theorem audit_fine {k : Int} {s : DServer} {p : DDatabase} : ∀ {l : List DReceipt}, (∀ r ∈ l, rcHit k s r = true → shareHas s r.Client = true ∧ r.Digest = shareDig r.Client r.Round (shareOf s r.Client)) → audit k s p l = audit k s p []
  | [], _ => rfl
  | r :: l, h => by
    rw [audit_cons, audit_fine (fun q hq => h q (by simp [hq]))]
    cases hh : rcHit k s r with
    | false => simp
    | true =>
      have := h r (by simp) hh
      rw [this.1, if_pos rfl, if_pos rfl, if_pos this.2]
theorem audit_miss {k : Int} {s : DServer} {p : DDatabase} : ∀ {l : List DReceipt}, (∀ r ∈ l, rcHit k s r = true → shareHas s r.Client = true → r.Digest = shareDig r.Client r.Round (shareOf s r.Client)) → (∃ r ∈ l, rcHit k s r = true ∧ shareHas s r.Client = false) → audit k s p l = 1
  | [], _, h => by obtain ⟨r, hr, _⟩ := h; cases hr
  | q :: l, h, ⟨r, hr, h1, h2⟩ => by
    rw [audit_cons]
    cases hh : rcHit k s q with
    | false =>
      rcases List.mem_cons.1 hr with rfl | hr
      · rw [hh] at h1; cases h1
      · simp only [Bool.false_eq_true, if_false]
        exact audit_miss (fun q hq => h q (by simp [hq])) ⟨r, hr, h1, h2⟩
    | true =>
      cases hs : shareHas s q.Client with
      | false => simp
      | true =>
        have hd := h q (by simp) hh hs
        rw [if_pos rfl, if_pos rfl, if_pos hd]
        rcases List.mem_cons.1 hr with rfl | hr
        · rw [hs] at h2; cases h2
        · exact audit_miss (fun q hq => h q (by simp [hq])) ⟨r, hr, h1, h2⟩
theorem audit_wrong {k : Int} {s : DServer} {p : DDatabase} : ∀ {l : List DReceipt}, (∀ r ∈ l, rcHit k s r = true → shareHas s r.Client = true) → (∃ r ∈ l, rcHit k s r = true ∧ ¬ r.Digest = shareDig r.Client r.Round (shareOf s r.Client)) → audit k s p l = 2
  | [], _, h => by obtain ⟨r, hr, _⟩ := h; cases hr
  | q :: l, h, ⟨r, hr, h1, h2⟩ => by
    rw [audit_cons]
    cases hh : rcHit k s q with
    | false =>
      rcases List.mem_cons.1 hr with rfl | hr
      · rw [hh] at h1; cases h1
      · simp only [Bool.false_eq_true, if_false]
        exact audit_wrong (fun q hq => h q (by simp [hq])) ⟨r, hr, h1, h2⟩
    | true =>
      rw [if_pos rfl, h q (by simp) hh, if_pos rfl]
      by_cases hd : q.Digest = shareDig q.Client q.Round (shareOf s q.Client)
      · rw [if_pos hd]
        rcases List.mem_cons.1 hr with rfl | hr
        · exact absurd hd h2
        · exact audit_wrong (fun q hq => h q (by simp [hq])) ⟨r, hr, h1, h2⟩
      · rw [if_neg hd]
theorem audit_zero {k : Int} {s : DServer} {p : DDatabase} : ∀ {l : List DReceipt}, audit k s p l = 0 → servOk s = true ∧ p.Rows = (sumS s).Rows
  | [], h => by
    rw [audit_nil] at h
    split at h
    · next e => rw [Bool.and_eq_true, beq_iff_eq] at e; exact e
    · cases h
  | r :: l, h => by
    rw [audit_cons] at h
    split at h
    · split at h
      · split at h
        · exact audit_zero h
        · cases h
      · cases h
    · exact audit_zero h
theorem mkRcpt_def (k s a r : Int) (d : DDatabase) : mkRcpt k s a r d = ⟨s, a, r, shareDig a r d, rcMac k ⟨s, a, r, shareDig a r d, 0⟩⟩ := by unfold mkRcpt; rfl
theorem mkRcpt_hit {k : Int} {s : DServer} {i a : Int} {d : DDatabase} (h1 : s.Id = i) (h2 : s.Round = 0) : rcHit k s (mkRcpt k i a 0 d) = true := by
  rw [mkRcpt_def]
  simp only [rcHit, h1, h2, Bool.and_eq_true, decide_eq_true_eq, and_self, true_and]
  unfold rcMac
  rfl
section
variable {M R : Int} {n : Nat} {sv : List DServer} {rc : List DReceipt}
/-- Whose receipt it is. -/
theorem RnI.hit (h : RnI M R n (fun _ => 0) sv rc) {i : Nat} (hi : i < sv.length) {k : Int} {s : DServer} (hs : s.Id = sv[i].Id) {q : DReceipt} (hq : q ∈ rc) (hh : rcHit k s q = true) : ∃ r ∈ sv[i].Received, q = mkRcpt (servKey M i) i r.Client 0 r.Share := by
  obtain ⟨j, hj, r, hr, e⟩ := h.rc2 q hq
  have h1 : q.Server = s.Id := by
    simp only [rcHit, Bool.and_eq_true, decide_eq_true_eq] at hh
    exact hh.1.1
  rw [e, mkRcpt_def, hs, (h.srv i hi).id] at h1
  have e2 : j = i := by
    have : (j : Int) = (i : Int) := h1
    omega
  subst e2
  exact ⟨r, hr, e⟩
theorem RnI.fine (h : RnI M R n (fun _ => 0) sv rc) {i : Nat} (hi : i < sv.length) (p : DDatabase) : audit (servKey M i) sv[i] p rc = audit (servKey M i) sv[i] p [] := by
  refine audit_fine fun q hq hh => ?_
  obtain ⟨r, hr, rfl⟩ := h.hit hi rfl hq hh
  rw [mkRcpt_def]
  have hf := findS_at (h.srv i hi).ord hr
  constructor
  · show shareHas sv[i] r.Client = true
    unfold shareHas; rw [hf]; rfl
  · show shareDig r.Client 0 r.Share = shareDig r.Client 0 (shareOf sv[i] r.Client)
    unfold shareOf; rw [hf]
theorem RnI.honest (h : RnI M R n (fun _ => 0) sv rc) (hR : 1 ≤ R ∧ R ≤ 3) (hn : n ≤ 3) {i : Nat} (hi : i < sv.length) (hb : sv[i].Behavior = 0 ∨ sv[i].Behavior = 3) : audit (servKey M sv[i].Id) sv[i] (pubS sv[i]) rc = 0 := by
  have hs := h.srv i hi
  have hok := hs.ok (by omega) (by decide) (by have := h.len; omega)
  rw [hs.id, h.fine hi, audit_nil, hok]
  have e : pubS sv[i] = sumS sv[i] := by
    unfold pubS sumS
    rw [if_pos hok, if_pos hok, if_neg (by omega), if_neg (by omega)]
  rw [e]
  simp
theorem flipR_24 {l : List (List UInt8)} (h : ∀ x ∈ l, x.length = 24) : ∀ x ∈ flipR l, x.length = 24 := by
  intro x hx
  match l with
  | [] => simp [flipR] at hx
  | [] :: rest => exact h x (by simpa [flipR] using hx)
  | (y :: ys) :: rest =>
    have h0 := h (y :: ys) (by simp)
    simp only [flipR, List.mem_cons] at hx
    rcases hx with rfl | hx
    · simpa using h0
    · exact h x (by simp [hx])
theorem full_pubS {s : DServer} {k : Int} {i : Nat} (h : SrvOk R i k s) (hR : 1 ≤ R ∧ R ≤ 64) (hk : 0 ≤ k) (hi : i ≤ 3) : full R.toNat (pubS s) := by
  have hok := h.ok hR hk hi
  have hr : inR s.Rows 1 64 = true := servOk_rows hok
  have f1 := full_sum hr s.Received
  have f2 := full_sum hr (s.Received.drop 1)
  rw [h.rows] at f1 f2
  unfold pubS
  rw [if_pos hok, h.rows]
  split
  · exact f2
  · split
    · exact ⟨by rw [flipR_len]; exact f1.1, flipR_24 f1.2⟩
    · exact f1
theorem full_sumS {s : DServer} {k : Int} {i : Nat} (h : SrvOk R i k s) (hR : 1 ≤ R ∧ R ≤ 64) (hk : 0 ≤ k) (hi : i ≤ 3) : full R.toNat (sumS s) := by
  have hok := h.ok hR hk hi
  have f1 := full_sum (servOk_rows hok) s.Received
  rw [h.rows] at f1
  unfold sumS
  rw [if_pos hok, h.rows]
  exact f1
theorem joinF_full {m : Nat} (hm : m ≤ 64) : ∀ (l : List DDatabase) (d : DDatabase), full m d → (∀ y ∈ l, full m y) → (joinF d l).isSome = true
  | [], _, _, _ => rfl
  | y :: l, d, hd, h => by
    have hy := h y (by simp)
    have e : xorOk d y = true := by
      simp only [xorOk, Bool.and_eq_true, decide_eq_true_eq]
      exact ⟨⟨full_ok hd hm, full_ok hy hm⟩, by rw [hd.1, hy.1]⟩
    show (if xorOk d y then joinF (xorDb d y) l else none).isSome = true
    rw [if_pos e]
    exact joinF_full hm l _ (full_xor hd) (fun z hz => h z (by simp [hz]))
theorem join_full {m : Nat} (hm : m ≤ 64) {l : List DDatabase} (h1 : 2 ≤ l.length ∧ l.length ≤ 4) (h : ∀ y ∈ l, full m y) : joinHas l = true := by
  have hr : inR l.length 2 4 = true := inR_iff.2 (by omega)
  unfold joinHas
  rw [joinW_T hr]
  exact joinF_full hm _ _ (h _ (List.getElem_mem _)) (fun y hy => h y (List.mem_of_mem_drop hy))
theorem RnI.join (h : RnI M R n (fun _ => 0) sv rc) (hR : 1 ≤ R ∧ R ≤ 3) (hn : 2 ≤ n ∧ n ≤ 3) : joinHas (sv.map pubS) = true := by
  have hl := h.len
  refine join_full (m := R.toNat) (by omega) (by rw [List.length_map]; omega) fun y hy => ?_
  obtain ⟨s, hs, rfl⟩ := List.mem_map.1 hy
  obtain ⟨i, hi, rfl⟩ := List.mem_iff_getElem.1 hs
  exact full_pubS (h.srv i hi) (by omega) (by decide) (by omega)
theorem bad_behavior (h : RnI M R n (fun _ => 0) sv rc) (hR : 1 ≤ R ∧ R ≤ 3) (hn : 2 ≤ n ∧ n ≤ 3) : ∀ (k : Nat), ∀ v ∈ audits M sv (sv.map pubS) rc k, ∃ (j : Nat) (hj : j < sv.length), v = (j : Int) ∧ ¬ sv[j].Behavior = 0 ∧ ¬ sv[j].Behavior = 3
  | 0, v, hv => by cases hv
  | k + 1, v, hv => by
    have hl := h.len
    unfold audits at hv
    rcases List.mem_append.1 hv with hv | hv
    · exact bad_behavior h hR hn k v hv
    · split at hv
      · next hb =>
        by_cases hk : k < sv.length
        · rw [List.getElem?_eq_getElem hk] at hv
          simp only [List.mem_singleton] at hv
          rw [badAt_in hk (by rw [List.length_map]; exact hk), List.getElem_map] at hb
          simp only [Bool.not_eq_true', decide_eq_false_iff_not] at hb
          refine ⟨k, hk, by rw [hv, (h.srv k hk).id], fun e => hb (h.honest hR hn.2 hk (.inl e)), fun e => hb (h.honest hR hn.2 hk (.inr e))⟩
        · unfold badAt at hb
          rw [List.getElem?_eq_none (by omega)] at hb
          cases hb
      · cases hv
theorem none_bad : ∀ {k : Nat}, audits M sv (sv.map pubS) rc k = [] → k ≤ sv.length → ∀ i (hi : i < sv.length), i < k → pubS sv[i] = ⟨(sumS sv[i]).Rows⟩
  | 0, _, _, i, _, h => absurd h (Nat.not_lt_zero _)
  | k + 1, h, hk, i, hi, hik => by
    unfold audits at h
    rw [List.append_eq_nil_iff] at h
    by_cases e : i < k
    · exact none_bad h.1 (by omega) i hi e
    · have e2 : i = k := by omega
      subst e2
      have hb : badAt M sv (sv.map pubS) rc i = false := by
        cases hb : badAt M sv (sv.map pubS) rc i with
        | false => rfl
        | true => rw [hb] at h; simp at h
      rw [badAt_in hi (by rw [List.length_map]; exact hi), List.getElem_map] at hb
      simp only [Bool.not_eq_false', decide_eq_true_eq] at hb
      have := (audit_zero hb).2
      rw [← this]
theorem not_spoiled (h : RnI M R n (fun _ => 0) sv rc) (hR : 1 ≤ R ∧ R ≤ 3) (hn : 2 ≤ n ∧ n ≤ 3) (hl : audits M sv (sv.map pubS) rc sv.length = []) : isSpoiled sv (sv.map pubS) = false := by
  have e : sv.map sumS = sv.map pubS := by
    refine List.map_congr_left fun s hs => ?_
    obtain ⟨i, hi, rfl⟩ := List.mem_iff_getElem.1 hs
    rw [none_bad hl (Nat.le_refl _) i hi hi]
  unfold isSpoiled
  rw [e, h.join hR hn]
  simp
end
end Go.Proofs.Ytpipfobdfcnghaa
