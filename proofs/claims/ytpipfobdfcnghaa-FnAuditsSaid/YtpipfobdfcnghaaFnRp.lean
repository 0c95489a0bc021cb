/-
  Plain law: servers in a round that is drawn: what they received, their receipts.
  Conditions: none.
-/
import Derived.Test.YtpipfobdfcnghaaFnRv
import Derived.Test.YtpipfobdfcnghaaFnMr
import Derived.Test.YtpipfobdfcnghaaFnMw
import Derived.Test.YtpipfobdfcnghaaFnNw
import Derived.Test.YtpipfobdfcnghaaFnAv
namespace Go.Proofs.Ytpipfobdfcnghaa
set_option maxHeartbeats 4000000
set_option maxRecDepth 20000
open Go.Vm Go.RowKit
attribute [local irreducible] FnAt MutAt InAt JAt CurAt FnE CurE RegAt

attribute [local irreducible] shareDig rcMac servKey
theorem full_le {n : Nat} {d : DDatabase} (h : full n d) : ∀ x ∈ d.Rows, x.length = 24 := h.2
theorem full_big {n : Nat} {d : DDatabase} (h : full n d) (hn : n ≤ 64) : bigB d.Rows := ⟨by rw [h.1]; omega, fun x hx => by rw [h.2 x hx]; decide⟩
theorem full_ok {n : Nat} {d : DDatabase} (h : full n d) (hn : n ≤ 64) : dbOk d = true := by
  simp only [dbOk, Bool.and_eq_true, decide_eq_true_eq, Bool.not_eq_true', List.any_eq_false]
  refine ⟨by rw [h.1]; omega, fun x hx => ?_⟩
  simp only [rowBad, Bool.not_eq_true', decide_eq_false_iff_not, Bool.not_eq_true, Bool.not_eq_false']
  rw [h.2 x hx]; simp
theorem full_szL : ∀ {l : List (List UInt8)}, (∀ x ∈ l, x.length = 24) → (l.map List.length).sum = l.length * 24
  | [], _ => rfl
  | x :: l, h => by
    rw [List.map_cons, List.sum_cons, full_szL (fun y hy => h y (by simp [hy])), h x (by simp), List.length_cons]; omega
structure SrvOk (R : Int) (i : Nat) (k : Int) (s : DServer) : Prop where
  id : s.Id = (i : Int)
  rows : s.Rows = R
  round : s.Round = 0
  beh : 0 ≤ s.Behavior ∧ s.Behavior ≤ 3
  len : (s.Received.length : Int) + k ≤ 3
  cl : ∀ r ∈ s.Received, k < r.Client ∧ r.Client ≤ 3
  fu : ∀ r ∈ s.Received, full R.toNat r.Share
  ze : i = 0 → ∀ r ∈ s.Received, ∃ sd : Int, 0 ≤ sd ∧ sd < 9999 ∧ r.Share = wDb R sd
  ord : s.Received.Pairwise (fun x y => x.Client < y.Client)
theorem allN_all {p : Nat → Bool} : ∀ {k i : Nat}, (∀ j, j < i + k → p j = true) → allN p k i = true
  | 0, _, _ => rfl
  | k + 1, i, h => by
    show (p i && allN p k (i + 1)) = true
    rw [h i (by omega), allN_all (fun j hj => h j (by omega))]; rfl
theorem SrvOk.ok {R : Int} {i : Nat} {k : Int} {s : DServer} (h : SrvOk R i k s) (hR : 1 ≤ R ∧ R ≤ 64) (hk : 0 ≤ k) (hi : i ≤ 3) : servOk s = true := by
  have hl := h.len
  have hb := h.beh
  simp only [servOk, servHead, Bool.and_eq_true, inR_iff, decide_eq_true_eq]
  rw [h.id, h.rows, h.round]
  refine ⟨allN_all fun j hj => ?_, ⟨⟨⟨by omega, hR⟩, hb⟩, by omega⟩, by omega⟩
  have hj' : j < s.Received.length := by omega
  have hm := h.cl _ (List.getElem_mem hj')
  have hf := h.fu _ (List.getElem_mem hj')
  rw [shareOk_eq _ _ hj']
  simp only [Bool.and_eq_true, Bool.or_eq_true, inR_iff, decide_eq_true_eq]
  refine ⟨⟨⟨by omega, ?_⟩, full_ok hf (by omega)⟩, by rw [hf.1]; omega⟩
  by_cases e : j = 0
  · exact .inl e
  · exact .inr (List.pairwise_iff_getElem.1 h.ord (j - 1) j (by omega) hj' (by omega))
theorem SrvOk.big {R : Int} {i : Nat} {k : Int} {s : DServer} (h : SrvOk R i k s) (hR : 1 ≤ R ∧ R ≤ 64) (hk : 0 ≤ k) : bigT s ∧ s.Received.length ≤ 3 := by
  have hl := h.len
  refine ⟨⟨⟨by omega, fun r hr => full_big (h.fu r hr) (by omega)⟩, fun r hr => ?_⟩, by omega⟩
  have hf := h.fu r hr
  unfold szL
  rw [full_szL hf.2, hf.1]; omega
theorem SrvOk.new {R : Int} {i : Nat} {k b : Int} (hR : 1 ≤ R ∧ R ≤ 64) (hi : i ≤ 3) (hb : 0 ≤ b ∧ b ≤ 3) (hk : k ≤ 3) : SrvOk R i k (newServer i R b) := by
  have : newServer i R b = ⟨i, R, 0, [], b⟩ := by
    unfold newServer
    rw [if_pos]
    simp only [Bool.and_eq_true, inR_iff]
    omega
  rw [this]
  exact ⟨rfl, rfl, rfl, hb, by simpa using hk, fun r hr => (by cases hr), fun r hr => (by cases hr), fun _ r hr => (by cases hr), List.Pairwise.nil⟩
theorem SrvOk.less {R : Int} {i : Nat} {k k' : Int} {s : DServer} (h : SrvOk R i k s) (hk : k' ≤ k) : SrvOk R i k' s :=
  ⟨h.id, h.rows, h.round, h.beh, by have := h.len; omega, fun r hr => ⟨by have := (h.cl r hr).1; omega, (h.cl r hr).2⟩, h.fu, h.ze, h.ord⟩
theorem SrvOk.put {R : Int} {i : Nat} {a : Int} {s : DServer} {d : DDatabase} (h : SrvOk R i a s) (hR : 1 ≤ R ∧ R ≤ 64) (ha : 1 ≤ a ∧ a ≤ 3) (hi : i ≤ 3) (hd : full R.toNat d) (hz : i = 0 → ∃ sd : Int, 0 ≤ sd ∧ sd < 9999 ∧ d = wDb R sd) :
    rcvOk s a d = true ∧ (rcv s a d).Received = ⟨a, d⟩ :: s.Received ∧ SrvOk R i (a - 1) (rcv s a d) := by
  have hk : insK s.Received a = 0 := insK_eq (Nat.zero_le _) (fun j _ hj => absurd hj (Nat.not_lt_zero _)) (fun h0 => by have := (h.cl _ (List.getElem_mem h0)).1; omega)
  have e : (rcvI s a d 0).Received = ⟨a, d⟩ :: s.Received := rfl
  have h2 : SrvOk R i (a - 1) (rcvI s a d 0) := by
    refine ⟨h.id, h.rows, h.round, h.beh, ?_, ?_, ?_, ?_, ?_⟩
    · rw [e, List.length_cons]; have := h.len; omega
    · intro r hr
      rw [e] at hr
      rcases List.mem_cons.1 hr with rfl | hr
      · exact ⟨by show a - 1 < a; omega, ha.2⟩
      · have := h.cl r hr; omega
    · intro r hr
      rw [e] at hr
      rcases List.mem_cons.1 hr with rfl | hr
      · exact hd
      · exact h.fu r hr
    · intro h0 r hr
      rw [e] at hr
      rcases List.mem_cons.1 hr with rfl | hr
      · exact hz h0
      · exact h.ze h0 r hr
    · rw [e]
      exact List.pairwise_cons.2 ⟨fun r hr => (h.cl r hr).1, h.ord⟩
  have h3 := rcv_T (h.ok hR (by omega) hi) (h2.ok hR (by omega) hi)
  unfold rcvOk rcv
  rw [hk, h3.1, h3.2]
  exact ⟨rfl, e, h2⟩
/-- The servers and the receipts. 'k i': clients up to it have not written to server i yet. -/
structure RnI (M R : Int) (n : Nat) (k : Nat → Int) (sv : List DServer) (rc : List DReceipt) : Prop where
  len : sv.length = n
  srv : ∀ (i : Nat) (h : i < sv.length), SrvOk R i (k i) sv[i]
  rc1 : ∀ (i : Nat) (h : i < sv.length), ∀ r ∈ sv[i].Received, mkRcpt (servKey M i) i r.Client 0 r.Share ∈ rc
  rc2 : ∀ q ∈ rc, ∃ (i : Nat) (h : i < sv.length), ∃ r ∈ sv[i].Received, q = mkRcpt (servKey M i) i r.Client 0 r.Share
theorem RnI.step {M R : Int} {n : Nat} {k : Nat → Int} {sv : List DServer} {rc : List DReceipt} {i : Nat} {a : Int} {d : DDatabase} (h : RnI M R n k sv rc) (hR : 1 ≤ R ∧ R ≤ 64) (ha : 1 ≤ a ∧ a ≤ 3) (hn : n ≤ 3) (hi : i < sv.length) (hk : k i = a) (hd : full R.toNat d)
    (hz : i = 0 → ∃ sd : Int, 0 ≤ sd ∧ sd < 9999 ∧ d = wDb R sd) : RnI M R n (fun j => if j = i then a - 1 else k j) (sv.set i (rcv sv[i] a d)) (rc ++ [mkRcpt (servKey M i) i a 0 d]) := by
  have hs := h.srv i hi
  rw [hk] at hs
  obtain ⟨_, h2, h3⟩ := hs.put hR ha (by have := h.len; omega) hd hz
  refine ⟨by rw [List.length_set]; exact h.len, fun j hj => ?_, fun j hj r hr => ?_, fun q hq => ?_⟩
  · rw [List.length_set] at hj
    rw [List.getElem_set]
    by_cases e : i = j
    · subst e; simp only [if_pos]; exact h3
    · have e' : ¬ j = i := fun x => e x.symm
      simp only [if_neg e, if_neg e']; exact h.srv j hj
  · rw [List.length_set] at hj
    rw [List.getElem_set] at hr
    by_cases e : i = j
    · subst e
      simp only [if_pos] at hr
      rw [h2] at hr
      rcases List.mem_cons.1 hr with rfl | hr
      · simp
      · exact List.mem_append_left _ (h.rc1 i hj r hr)
    · simp only [if_neg e] at hr
      exact List.mem_append_left _ (h.rc1 j hj r hr)
  · rcases List.mem_append.1 hq with hq | hq
    · obtain ⟨j, hj, r, hr, e⟩ := h.rc2 q hq
      refine ⟨j, by rw [List.length_set]; exact hj, r, ?_, e⟩
      rw [List.getElem_set]
      by_cases e : i = j
      · subst e; simp only [if_pos]; rw [h2]; exact List.mem_cons_of_mem _ hr
      · simp only [if_neg e]; exact hr
    · refine ⟨i, by rw [List.length_set]; exact hi, ⟨a, d⟩, ?_, List.mem_singleton.1 hq⟩
      rw [List.getElem_set]
      simp only [if_pos]
      rw [h2]; simp
theorem wRow_24 (s : Int) (r : Nat) : (wRow s r).length = 24 := by unfold wRow; rw [stream_T (by decide), strm_len]; rfl
theorem full_wDb (R s : Int) : full R.toNat (wDb R s) := ⟨by simp [wDb], fun x hx => by
  simp only [wDb, List.mem_map] at hx
  obtain ⟨r, _, rfl⟩ := hx
  exact wRow_24 s r⟩
theorem full_wLast {R i : Int} {c : List UInt8} (hR : 1 ≤ R ∧ R ≤ 64) (hi : 0 ≤ i ∧ i < R) (hc : c.length = 24) (ss : List Int) : full R.toNat (wLast R i c ss) := by
  have h1 : inR R 1 64 = true := inR_iff.2 hR
  have h0 : full R.toNat (newDb R) := by
    unfold newDb
    rw [if_pos (inR_iff.2 (by omega))]
    exact ⟨by simp, fun x hx => by rw [(List.mem_replicate.1 hx).2]; exact List.length_replicate⟩
  have h2 : full R.toNat (unitW R i c) := by
    unfold unitW putRow
    rw [if_pos h1]
    split
    · refine ⟨by simp [h0.1], fun x hx => ?_⟩
      rcases List.mem_or_eq_of_mem_set hx with hx | rfl
      · exact h0.2 x hx
      · exact hc
    · exact h0
  have key : ∀ (l : List Int) (d : DDatabase), full R.toNat d → full R.toNat (l.foldl (fun l s => xorDb l (wDb R s)) d) := by
    intro l
    induction l with
    | nil => exact fun d h => h
    | cons r l ih => exact fun d h => ih _ (full_xor h)
  exact key ss _ h2
theorem makeW_eq {R i : Int} {c : List UInt8} {ss : List Int} {n : Nat} (hR : 1 ≤ R ∧ R ≤ 64) (hi : 0 ≤ i ∧ i < R) (hc : c.length = 24) (hn : 2 ≤ n ∧ n ≤ 3) (hs : ss.length + 1 = n) : makeW R i c ss = ss.map (wDb R) ++ [wLast R i c ss] := by
  unfold makeW
  rw [if_pos]
  unfold mwOk
  rw [unitOk_eq]
  simp only [Bool.and_eq_true, inR_iff, decide_eq_true_eq]
  rw [w64_ok (by omega) (by omega)]
  omega
theorem makeW_get {R i : Int} {c : List UInt8} {ss : List Int} {n : Nat} (hR : 1 ≤ R ∧ R ≤ 64) (hi : 0 ≤ i ∧ i < R) (hc : c.length = 24) (hn : 2 ≤ n ∧ n ≤ 3) (hs : ss.length + 1 = n) (hb : ∀ s ∈ ss, 0 ≤ s ∧ s < 9999) :
    (makeW R i c ss).length = n ∧ ∀ (j : Nat) (h : j < (makeW R i c ss).length), full R.toNat (makeW R i c ss)[j] ∧ (j = 0 → ∃ sd : Int, 0 ≤ sd ∧ sd < 9999 ∧ (makeW R i c ss)[j] = wDb R sd) := by
  rw [makeW_eq hR hi hc hn hs]
  refine ⟨by simp; omega, fun j h => ?_⟩
  simp only [List.length_append, List.length_map, List.length_cons, List.length_nil] at h
  by_cases e : j < ss.length
  · rw [List.getElem_append_left (by simpa using e), List.getElem_map]
    exact ⟨full_wDb _ _, fun _ => ⟨_, (hb _ (List.getElem_mem e)).1, (hb _ (List.getElem_mem e)).2, rfl⟩⟩
  · rw [List.getElem_append_right (by simp; omega)]
    simp only [List.getElem_singleton]
    exact ⟨full_wLast hR hi hc ss, fun h0 => by omega⟩
end Go.Proofs.Ytpipfobdfcnghaa
