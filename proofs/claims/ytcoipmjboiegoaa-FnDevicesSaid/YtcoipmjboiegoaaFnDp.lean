/-
  The plain law of devices: a crash returns to the saved state, a submitted message survives it, saved states are never ahead.
  Conditions: none.
-/
import Derived.Test.YtcoipmjboiegoaaFnRd
namespace Go.Proofs.Ytcoipmjboiegoaa
set_option maxHeartbeats 4000000
set_option maxRecDepth 20000
open Go.Vm Go.RowKit
attribute [local irreducible] FnAt MutAt InAt JAt CurAt FnE CurE RegAt
theorem sameOwner_iff {a b : DClient} : sameOwner a b = true ↔ a.Id = b.Id ∧ a.Friend = b.Friend ∧ a.Key = b.Key ∧ a.Seed = b.Seed ∧ a.Submitted = b.Submitted := by
  simp only [sameOwner, Bool.and_eq_true, decide_eq_true_eq, beq_iff_eq, and_assoc]
theorem clientEq_self (c : DClient) : clientEq c c = true := by
  simp only [clientEq, Bool.and_eq_true, sameOwner_iff, decide_eq_true_eq, beq_self_eq_true, and_self]
theorem devEq_self (d : DDevice) : devEq d d = true := by
  simp only [devEq, clientEq_self, Bool.and_self]
theorem isPre_self (l : List (List UInt8)) : isPre l l = true := by
  simp only [isPre, List.take_length, beq_self_eq_true, Bool.and_true, decide_eq_true_eq]; omega
theorem isPre_app {a b : List (List UInt8)} (x : List (List UInt8)) (h : isPre a b = true) : isPre a (b ++ x) = true := by
  simp only [isPre, Bool.and_eq_true, decide_eq_true_eq, beq_iff_eq, List.length_append] at h ⊢
  obtain ⟨h1, h2⟩ := h
  refine ⟨by omega, ?_⟩
  rw [List.take_append_of_le_length (by omega)]
  exact h2
theorem devOk_iff {d : DDevice} : devOk d = true ↔ clientOk d.Live = true ∧ clientOk d.Saved = true ∧ sameOwner d.Live d.Saved = true ∧ d.Saved.Sent ≤ d.Live.Sent ∧ d.Saved.Next ≤ d.Live.Next ∧ isPre d.Saved.Inbox d.Live.Inbox = true := by
  simp only [devOk, Bool.and_eq_true, decide_eq_true_eq, and_assoc]
theorem devOk_both {c : DClient} (h : clientOk c = true) : devOk ⟨c, c⟩ = true :=
  devOk_iff.2 ⟨h, h, sameOwner_iff.2 ⟨rfl, rfl, rfl, rfl, rfl⟩, Int.le_refl _, Int.le_refl _, isPre_self _⟩
theorem bodiesOk_iff {l : List (List UInt8)} : bodiesOk l = true ↔ (∀ x ∈ l, x.length ≤ 14) ∧ l.length ≤ 16 := by
  simp only [bodiesOk, Bool.and_eq_true, Bool.not_eq_true', List.any_eq_false, long, decide_eq_true_eq]
  constructor
  · rintro ⟨h1, h2⟩; exact ⟨fun x hx => by have := h1 x hx; omega, by omega⟩
  · rintro ⟨h1, h2⟩; exact ⟨fun x hx => by have := h1 x hx; omega, by omega⟩
theorem clientOk_iff {c : DClient} : clientOk c = true ↔ okC c.Id c.Friend c.Key = true ∧ bodiesOk c.Submitted = true ∧ bodiesOk c.Inbox = true ∧ (0 ≤ c.Sent ∧ c.Sent ≤ c.Submitted.length) ∧ (0 ≤ c.Next ∧ c.Next ≤ 100000) := by
  simp only [clientOk, Bool.and_eq_true, inR_iff, and_assoc]
theorem readSent_le {c : DClient} (own : List UInt8) (h0 : 0 ≤ c.Sent) (h1 : c.Sent ≤ c.Submitted.length) : c.Sent ≤ readSent c own ∧ readSent c own ≤ c.Submitted.length := by
  unfold readSent
  split
  · split <;> omega
  · omega
theorem readInbox_pre (c : DClient) (other : List UInt8) : ∃ x, readInbox c other = c.Inbox ++ x := by
  unfold readInbox
  split
  · exact ⟨_, rfl⟩
  · exact ⟨[], by simp⟩
theorem readInbox_ok {c : DClient} (other : List UInt8) (h : bodiesOk c.Inbox = true) : bodiesOk (readInbox c other) = true := by
  obtain ⟨h1, h2⟩ := bodiesOk_iff.1 h
  refine bodiesOk_iff.2 ?_
  unfold readInbox
  split
  · next e =>
    simp only [readTake, Bool.and_eq_true, decide_eq_true_eq] at e
    refine ⟨fun x hx => ?_, by simp only [List.length_append, List.length_cons, List.length_nil]; omega⟩
    rcases List.mem_append.1 hx with hx | hx
    · exact h1 x hx
    · rw [List.mem_singleton.1 hx]; exact readOpen_len c other
  · exact ⟨h1, h2⟩
theorem readC_ok {c : DClient} (r : Int) (own other : List UInt8) (h : clientOk c = true) : clientOk (readC c r own other) = true := by
  unfold readC
  split
  · next e =>
    obtain ⟨h1, h2, h3, h4, h5⟩ := clientOk_iff.1 h
    simp only [readsOk, Bool.and_eq_true, inR_iff] at e
    have hs := readSent_le own h4.1 h4.2
    exact clientOk_iff.2 ⟨h1, h2, readInbox_ok other h3, ⟨by show 0 ≤ readSent c own; omega, hs.2⟩, by show 0 ≤ r + 1 ∧ r + 1 ≤ 100000; omega⟩
  · exact h
theorem readC_dev {d : DDevice} (r : Int) (own other : List UInt8) (h : devOk d = true) : devOk ⟨readC d.Live r own other, d.Saved⟩ = true := by
  obtain ⟨h1, h2, h3, h4, h5, h6⟩ := devOk_iff.1 h
  refine devOk_iff.2 ⟨readC_ok r own other h1, h2, ?_, ?_, ?_, ?_⟩
  · show sameOwner (readC d.Live r own other) d.Saved = true
    unfold readC; split <;> exact h3
  · show d.Saved.Sent ≤ (readC d.Live r own other).Sent
    obtain ⟨_, _, _, h7, _⟩ := clientOk_iff.1 h1
    have := readSent_le own h7.1 h7.2
    unfold readC; split
    · show _ ≤ readSent d.Live own; omega
    · exact h4
  · show d.Saved.Next ≤ (readC d.Live r own other).Next
    unfold readC; split
    · next e =>
      simp only [readsOk, Bool.and_eq_true, inR_iff] at e
      show d.Saved.Next ≤ r + 1; omega
    · exact h5
  · show isPre d.Saved.Inbox (readC d.Live r own other).Inbox = true
    unfold readC; split
    · obtain ⟨x, hx⟩ := readInbox_pre d.Live other
      show isPre d.Saved.Inbox (readInbox d.Live other) = true
      rw [hx]; exact isPre_app x h6
    · exact h6
theorem saveD_ok {d : DDevice} (h : devOk d = true) : devOk (saveD d) = true := by
  unfold saveD; rw [if_pos h]; exact devOk_both (devOk_iff.1 h).1
theorem readD_ok {d : DDevice} (r : Int) (own other : List UInt8) (h : devOk d = true) : devOk (readD d r own other) = true := by
  unfold readD
  split
  · split
    · exact saveD_ok (readC_dev r own other h)
    · exact readC_dev r own other h
  · exact h
theorem needsSave_both (c : DClient) : needsSave ⟨c, c⟩ = false := by
  unfold needsSave
  simp only [Int.sub_self]
  exact Bool.and_false _
theorem readD_saved {d : DDevice} (r : Int) (own other : List UInt8) (h : readDOk d r = true) : needsSave (readD d r own other) = false := by
  have hd : devOk d = true := by simp only [readDOk, Bool.and_eq_true] at h; exact h.1
  unfold readD
  rw [if_pos h]
  split
  · unfold saveD; rw [if_pos (readC_dev r own other hd)]; exact needsSave_both _
  · next e => exact eq_false_of_ne_true e
theorem queued_iff {c : DClient} {b : List UInt8} (h : clientOk c = true) (hb : b.length ≤ 14) : queued c b = decide ((c.Submitted.length : Int) < 16) := by
  obtain ⟨h1, h2, h3, h4, h5⟩ := clientOk_iff.1 h
  obtain ⟨h6, h7⟩ := bodiesOk_iff.1 h2
  have e : clientOk (queue c b) = decide ((c.Submitted.length : Int) < 16) := by
    rw [Bool.eq_iff_iff, decide_eq_true_eq, clientOk_iff]
    show okC c.Id c.Friend c.Key = true ∧ bodiesOk (c.Submitted ++ [b]) = true ∧ bodiesOk c.Inbox = true ∧ (0 ≤ c.Sent ∧ c.Sent ≤ ((c.Submitted ++ [b]).length : Nat)) ∧ (0 ≤ c.Next ∧ c.Next ≤ 100000) ↔ _
    have e2 : (c.Submitted ++ [b]).length = c.Submitted.length + 1 := by simp
    rw [bodiesOk_iff, e2]
    constructor
    · rintro ⟨_, ⟨_, h⟩, _⟩; omega
    · intro h
      refine ⟨h1, ⟨fun x hx => ?_, by omega⟩, h3, ⟨h4.1, by omega⟩, h5⟩
      rcases List.mem_append.1 hx with hx | hx
      · exact h6 x hx
      · rw [List.mem_singleton.1 hx]; exact hb
  unfold queued
  rw [h, e, Bool.true_and]
theorem submitOk_eq {d : DDevice} {b : List UInt8} (h : devOk d = true) (hb : b.length ≤ 14) : submitOk d b = decide ((d.Live.Submitted.length : Int) < 16) := by
  obtain ⟨h1, h2, h3, _⟩ := devOk_iff.1 h
  have e := (sameOwner_iff.1 h3).2.2.2.2
  unfold submitOk
  rw [h, queued_iff h1 hb, queued_iff h2 hb, ← e, Bool.true_and, Bool.and_self]
theorem submitD_ok {d : DDevice} {b : List UInt8} (h : submitOk d b = true) : devOk (submitD d b) = true := by
  have h' := h
  unfold submitOk at h'
  simp only [Bool.and_eq_true, queued] at h'
  obtain ⟨⟨h0, _, h1⟩, _, h2⟩ := h'
  obtain ⟨_, _, h3, h4, h5, h6⟩ := devOk_iff.1 h0
  obtain ⟨e1, e2, e3, e4, e5⟩ := sameOwner_iff.1 h3
  unfold submitD
  rw [if_pos h]
  refine devOk_iff.2 ⟨h1, h2, sameOwner_iff.2 ⟨e1, e2, e3, e4, ?_⟩, h4, h5, h6⟩
  show d.Live.Submitted ++ [b] = d.Saved.Submitted ++ [b]
  rw [e5]
/-- Of a state that is not valid. -/
theorem devices_bad {d : DDevice} (r : Int) (own other : List UInt8) (h : devOk d = false) : readDOk d r = false ∧ readD d r own other = d ∧ crashD d = d := by
  have e : readDOk d r = false := by unfold readDOk; rw [h]; rfl
  exact ⟨e, by unfold readD; rw [e]; rfl, by unfold crashD; rw [h]; rfl⟩
theorem crash_live {x : DDevice} (h : devOk x = true) : crashD x = ⟨x.Saved, x.Saved⟩ := by unfold crashD; rw [if_pos h]
theorem crash_ok {x : DDevice} (h : devOk x = true) : devOk (crashD x) = true := by rw [crash_live h]; exact devOk_both (devOk_iff.1 h).2.1
theorem save_both {x : DDevice} (h : devOk x = true) : saveD x = ⟨x.Live, x.Live⟩ := by unfold saveD; rw [if_pos h]
theorem crash_submit {x : DDevice} {b : List UInt8} (h : submitOk x b = true) : (crashD (submitD x b)).Live.Submitted.length = x.Live.Submitted.length + 1 := by
  have h0 : devOk x = true := by unfold submitOk at h; simp only [Bool.and_eq_true] at h; exact h.1.1
  rw [crash_live (submitD_ok h)]
  unfold submitD
  rw [if_pos h]
  show (x.Saved.Submitted ++ [b]).length = _
  rw [← (sameOwner_iff.1 (devOk_iff.1 h0).2.2.1).2.2.2.2]
  simp
theorem submit_same {x : DDevice} {b : List UInt8} (h : submitOk x b = false) : submitD x b = x := by unfold submitD; rw [h]; rfl
end Go.Proofs.Ytcoipmjboiegoaa
