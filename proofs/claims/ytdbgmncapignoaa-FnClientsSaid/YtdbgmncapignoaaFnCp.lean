/-
  The plain law of clients: a published message is counted once, a received one is taken once.
  Conditions: none.
-/
import Derived.Test.YtdbgmncapignoaaFnRe
import Derived.Test.YtdbgmncapignoaaFnU
namespace Go.Proofs.Ytdbgmncapignoaa
set_option maxHeartbeats 4000000
set_option maxRecDepth 20000
open Go.Vm Go.RowKit
attribute [local irreducible] FnAt MutAt InAt JAt CurAt FnE CurE RegAt
/-- Two runs of the hash over the same numbers stay apart as they began. -/
theorem fold_apart : ∀ (l : List Int) (h1 h2 : Int), ∃ t, l.foldl hstep h1 - l.foldl hstep h2 = (h1 - h2) * 1000003 ^ l.length + 2147483647 * t
  | [], h1, h2 => ⟨0, by simp⟩
  | x :: r, h1, h2 => by
    obtain ⟨t, ht⟩ := fold_apart r (hstep h1 x) (hstep h2 x)
    have e1 : hstep h1 x = h1 * 1000003 + x % 2147483647 + 13 - 2147483647 * ((h1 * 1000003 + x % 2147483647 + 13) / 2147483647) := by
      unfold hstep; rw [Int.emod_def]
    have e2 : hstep h2 x = h2 * 1000003 + x % 2147483647 + 13 - 2147483647 * ((h2 * 1000003 + x % 2147483647 + 13) / 2147483647) := by
      unfold hstep; rw [Int.emod_def]
    generalize (h1 * 1000003 + x % 2147483647 + 13) / 2147483647 = q1 at e1
    generalize (h2 * 1000003 + x % 2147483647 + 13) / 2147483647 = q2 at e2
    refine ⟨t - (q1 - q2) * 1000003 ^ r.length, ?_⟩
    simp only [List.foldl_cons, List.length_cons, Int.pow_succ]
    rw [ht, e1, e2]
    generalize (1000003 : Int) ^ r.length = K
    grind
theorem step_apart {g c : Int} (h0 : 0 ≤ c) (h1 : c < 1000) : ∃ s, hstep g c - hstep g (c + 1) = -1 + 2147483647 * s := by
  unfold hstep
  refine ⟨(g * 1000003 + (c + 1) % 2147483647 + 13) / 2147483647 - (g * 1000003 + c % 2147483647 + 13) / 2147483647, ?_⟩
  omega
theorem check_form (k c : Int) (d : List UInt8) : cellCheck k c d = ((d.map fun x => (x.toNat : Int)) ++ [k]).foldl hstep (hstep (hstep (hstep 11 k) 71) c) := by
  unfold cellCheck khash hsh
  rfl
theorem pow_odd : ¬ (2147483647 : Int) ∣ 1000003 ^ 21 := by decide +kernel
theorem apart_alg {s t K : Int} (h : 0 = (-1 + 2147483647 * s) * K + 2147483647 * t) : (2147483647 : Int) ∣ K := by
  refine ⟨s * K + t, ?_⟩
  rw [Int.add_mul, Int.mul_assoc] at h
  rw [Int.mul_add]
  omega
theorem check_apart {k c : Int} {d : List UInt8} (hd : d.length = 20) (h0 : 0 ≤ c) (h1 : c < 1000) : cellCheck k c d ≠ cellCheck k (c + 1) d := by
  intro e
  rw [check_form, check_form] at e
  have hl : ((d.map fun x => (x.toNat : Int)) ++ [k]).length = 21 := by rw [List.length_append, List.length_map, hd]; rfl
  generalize (d.map fun x => (x.toNat : Int)) ++ [k] = l at *
  generalize hstep (hstep 11 k) 71 = g at *
  obtain ⟨t, ht⟩ := fold_apart l (hstep g c) (hstep g (c + 1))
  obtain ⟨s, hs⟩ := step_apart (g := g) h0 h1
  rw [e, Int.sub_self, hs, hl] at ht
  exact pow_odd (apart_alg ht)
theorem bytes4_inj {a b : Int} (h0 : 0 ≤ a) (h1 : a < 2147483647) (h2 : 0 ≤ b) (h3 : b < 2147483647) (h : bytes4 a = bytes4 b) : a = b := by
  unfold bytes4 at h
  simp only [List.cons.injEq, and_true] at h
  obtain ⟨e0, e1, e2, e3⟩ := h
  have f : ∀ {x y : Int}, Vm.byteOf x = Vm.byteOf y → x % 256 = y % 256 := fun {x y} e => by
    rw [← byteOf_int, ← byteOf_int, e]
  have g0 := f e0; have g1 := f e1; have g2 := f e2; have g3 := f e3
  omega
theorem open_apart {k c : Int} {b : List UInt8} (h0 : 0 ≤ c) (h1 : c < 1000) (h : openOk k c b = true) : openOk k (c + 1) b = false := by
  cases h2 : openOk k (c + 1) b with
  | false => rfl
  | true =>
    exfalso
    simp only [openOk, openHead, Bool.and_eq_true, decide_eq_true_eq, beq_iff_eq] at h h2
    have hl := h.1.1.1.2
    have hd : (b.take 20).length = 20 := by rw [List.length_take]; omega
    have r1 := khash_range k (71 :: c :: (b.take 20).map fun x => (x.toNat : Int))
    have r2 := khash_range k (71 :: (c + 1) :: (b.take 20).map fun x => (x.toNat : Int))
    refine check_apart (k := k) hd h0 h1 (bytes4_inj ?_ ?_ ?_ ?_ (h.1.1.2.symm.trans h2.1.1.2)) <;> (unfold cellCheck) <;> omega
theorem read_twice {c : DClient} {r r2 : Int} {own other : List UInt8} (h : readsOk c r = true) (h2 : readsOk (readC c r own other) r2 = true) : (readC (readC c r own other) r2 own other).Inbox.length = (readC c r own other).Inbox.length := by
  have hx : readC c r own other = { c with Sent := readSent c own, Inbox := readInbox c other, Next := r + 1 } := by unfold readC; rw [if_pos h]
  have hy : (readC (readC c r own other) r2 own other).Inbox = readInbox (readC c r own other) other := by
    generalize readC c r own other = x at h2 ⊢
    unfold readC
    rw [if_pos h2]
  rw [hy]
  cases ht : readTake c other with
  | false =>
    have e : readInbox c other = c.Inbox := by unfold readInbox; rw [ht]; rfl
    have e2 : readTake (readC c r own other) other = false := by
      rw [hx, e]; exact ht
    unfold readInbox; rw [e2]; rfl
  | true =>
    have e : readInbox c other = c.Inbox ++ [(readOpen c other).Body] := by unfold readInbox; rw [ht]; rfl
    have e2 : readTake (readC c r own other) other = false := by
      rw [hx, e]
      simp only [readTake, Bool.and_eq_true, decide_eq_true_eq] at ht
      have h3 := open_apart (by omega) (by omega) ht.1.1
      unfold readTake
      have e4 : openOk (dirKey c.Key (1 - dirOf { c with Sent := readSent c own, Inbox := c.Inbox ++ [(readOpen c other).Body], Next := r + 1 })) ((c.Inbox ++ [(readOpen c other).Body]).length : Int) other = false := by
        rw [List.length_append]; exact h3
      have e5 : openOk (dirKey ({ c with Sent := readSent c own, Inbox := c.Inbox ++ [(readOpen c other).Body], Next := r + 1 } : DClient).Key (1 - dirOf { c with Sent := readSent c own, Inbox := c.Inbox ++ [(readOpen c other).Body], Next := r + 1 })) (({ c with Sent := readSent c own, Inbox := c.Inbox ++ [(readOpen c other).Body], Next := r + 1 } : DClient).Inbox.length : Int) other = false := e4
      rw [e5]; rfl
    unfold readInbox; rw [e2]; rfl
theorem bodiesOk_iff {l : List (List UInt8)} : bodiesOk l = true ↔ (∀ x ∈ l, x.length ≤ 14) ∧ l.length ≤ 16 := by
  simp only [bodiesOk, Bool.and_eq_true, Bool.not_eq_true', List.any_eq_false, long, decide_eq_true_eq]
  constructor
  · rintro ⟨h1, h2⟩; exact ⟨fun x hx => by have := h1 x hx; omega, by omega⟩
  · rintro ⟨h1, h2⟩; exact ⟨fun x hx => by have := h1 x hx; omega, by omega⟩
theorem clientOk_iff {c : DClient} : clientOk c = true ↔ okC c.Id c.Friend c.Key = true ∧ bodiesOk c.Submitted = true ∧ bodiesOk c.Inbox = true ∧ (0 ≤ c.Sent ∧ c.Sent ≤ c.Submitted.length) ∧ (0 ≤ c.Next ∧ c.Next ≤ 100000) := by
  simp only [clientOk, Bool.and_eq_true, inR_iff, and_assoc]
theorem readSent_le {c : DClient} (own : List UInt8) (h0 : 0 ≤ c.Sent) (h1 : c.Sent ≤ c.Submitted.length) : c.Sent ≤ readSent c own ∧ readSent c own ≤ c.Submitted.length := by
  unfold readSent
  split
  · split <;> omega
  · omega
theorem readInbox_pre (c : DClient) (other : List UInt8) : ∃ x, readInbox c other = c.Inbox ++ x := by
  unfold readInbox
  split
  · exact ⟨_, rfl⟩
  · exact ⟨[], by simp⟩
theorem readInbox_ok {c : DClient} (other : List UInt8) (h : bodiesOk c.Inbox = true) : bodiesOk (readInbox c other) = true := by
  obtain ⟨h1, h2⟩ := bodiesOk_iff.1 h
  refine bodiesOk_iff.2 ?_
  unfold readInbox
  split
  · next e =>
    simp only [readTake, Bool.and_eq_true, decide_eq_true_eq] at e
    refine ⟨fun x hx => ?_, by simp only [List.length_append, List.length_cons, List.length_nil]; omega⟩
    rcases List.mem_append.1 hx with hx | hx
    · exact h1 x hx
    · rw [List.mem_singleton.1 hx]; exact readOpen_len c other
  · exact ⟨h1, h2⟩
theorem readC_ok {c : DClient} (r : Int) (own other : List UInt8) (h : clientOk c = true) : clientOk (readC c r own other) = true := by
  unfold readC
  split
  · next e =>
    obtain ⟨h1, h2, h3, h4, h5⟩ := clientOk_iff.1 h
    simp only [readsOk, Bool.and_eq_true, inR_iff] at e
    have hs := readSent_le own h4.1 h4.2
    exact clientOk_iff.2 ⟨h1, h2, readInbox_ok other h3, ⟨by show 0 ≤ readSent c own; omega, hs.2⟩, by show 0 ≤ r + 1 ∧ r + 1 ≤ 100000; omega⟩
  · exact h
theorem reads_parts {c : DClient} {r : Int} (h : readsOk c r = true) : clientOk c = true ∧ c.Next ≤ r ∧ 0 ≤ r ∧ r ≤ 99999 := by
  simp only [readsOk, Bool.and_eq_true, inR_iff] at h
  have := clientOk_next h.1
  exact ⟨h.1, by omega, by omega, by omega⟩
theorem writes16 {c : DClient} {r : Int} (h : clientOk c = true) (h0 : 0 ≤ r) (h1 : r ≤ 100000) : writes c r 16 = true := by
  unfold writes
  rw [h, inR_iff.2 ⟨h0, h1⟩]; rfl
theorem sent_pubT {c : DClient} {r : Int} {own : List UInt8} (hw : writes c r 16 = true) (h0 : 0 ≤ c.Sent) (h : c.Sent < c.Submitted.length) : decide (readSent c own = c.Sent + 1) = (own == writeCell c r 16) := by
  have h2 : c.Sent.toNat < c.Submitted.length := by omega
  have e : writeCell c r 16 = msgCell c h2 := by unfold writeCell; rw [if_pos hw, dif_pos h2]
  rw [e]
  unfold readSent
  rw [dif_pos h2]
  cases hq : (own == msgCell c h2) with
  | true => rw [if_pos rfl]; exact decide_eq_true rfl
  | false => rw [if_neg (by decide)]; exact decide_eq_false (by omega)
theorem sent_pubF {c : DClient} {own : List UInt8} (h0 : 0 ≤ c.Sent) (h : ¬ c.Sent < c.Submitted.length) : readSent c own = c.Sent := by
  unfold readSent
  rw [dif_neg (by omega)]
theorem inbox_len (c : DClient) (other : List UInt8) : c.Inbox.length ≤ (readInbox c other).length ∧ (readInbox c other).length ≤ c.Inbox.length + 1 := by
  unfold readInbox
  split
  · simp
  · omega
theorem writeCell_24 {c : DClient} {r : Int} (hw : writes c r 16 = true) : (writeCell c r 16).length = 24 := by
  unfold writeCell
  rw [if_pos hw]
  have h1 : clientOk c = true := by simp only [writes, Bool.and_eq_true] at hw; exact hw.1.1
  obtain ⟨h3, h4, h5, h6, h7⟩ := clientOk_iff.1 h1
  obtain ⟨h8, h9⟩ := bodiesOk_iff.1 h4
  split
  · next h =>
    have hb := h8 _ (List.getElem_mem h)
    have hk := khash_range c.Key [83, dirOf c]
    have hs : sealOk (dirKey c.Key (dirOf c)) c.Sent ⟨1, c.Submitted[c.Sent.toNat]⟩ = true := by
      unfold sealOk plainOk
      have e1 : inR (dirKey c.Key (dirOf c)) 1 2147483646 = true := by
        rw [inR_iff]; unfold dirKey orOne; split <;> omega
      rw [e1, inR_iff.2 (show 0 ≤ c.Sent ∧ c.Sent ≤ 1000000000000 by omega), decide_eq_true (show (((⟨1, c.Submitted[c.Sent.toNat]⟩ : DPlain).Body.length : Nat) : Int) ≤ 14 from by show ((c.Submitted[c.Sent.toNat]).length : Int) ≤ 14; omega)]
      rfl
    have hst := stream18_len (khash (dirKey c.Key (dirOf c)) [61, c.Sent])
    have he := encB_len (cellKey (dirKey c.Key (dirOf c)) c.Sent) (sealPlain (khash (dirKey c.Key (dirOf c)) [61, c.Sent]) ⟨1, c.Submitted[c.Sent.toNat]⟩)
    unfold msgCell sealCell
    rw [if_pos hs, List.length_append, bytes4_len, sealData, he]
    simp only [sealPlain, List.length_cons, List.length_append, List.length_drop, hst]
    omega
  · unfold coverCell; rw [stream_T (by decide), strm_len]; rfl
theorem child_nn (s d : Int) : 0 ≤ child s d := by
  unfold child; exact Int.emod_nonneg _ (by decide)
theorem writeRow_16 {c : DClient} {r : Int} (hw : writes c r 16 = true) (h0 : 0 ≤ r) (h1 : r ≤ 100000) : 0 ≤ writeRow c r 16 ∧ writeRow c r 16 < 16 := by
  have t : ∀ a : Int, 0 ≤ a → 0 ≤ a.tmod 16 ∧ a.tmod 16 < 16 := fun a ha => by rw [Int.tmod_eq_emod_of_nonneg ha]; omega
  have i1 : inR 16 1 64 = true := rfl
  have i2 : inR r 0 1000000000000 = true := inR_iff.2 ⟨h0, by omega⟩
  unfold writeRow
  rw [if_pos hw]
  split
  · unfold mailRow; rw [i1, i2]; exact t _ (child_nn _ _)
  · unfold coverRow; rw [i1]; exact t _ (child_nn _ _)
end Go.Proofs.Ytdbgmncapignoaa
