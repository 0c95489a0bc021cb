/-
  Plain laws: a sealed cell that is opened; two friends who write and read.
  Conditions: none.
-/
import Derived.Test.YtpelgajmebgbaaaFnRe
import Derived.Test.YtpelgajmebgbaaaFnQ
namespace Go.Proofs.Ytpelgajmebgbaaa
set_option maxHeartbeats 4000000
set_option maxRecDepth 20000
open Go.Vm Go.RowKit
attribute [local irreducible] FnAt MutAt InAt

theorem open_seal {k c : Int} {p : DPlain} (h : sealOk k c p = true) : openOk k c (sealCell k c p) = true ∧ openCell k c (sealCell k c p) = p := by
  have h0 := h
  simp only [sealOk, plainOk, Bool.and_eq_true, decide_eq_true_eq] at h0
  obtain ⟨⟨hk, hc⟩, hp, hb⟩ := h0
  have hp2 := inR_iff.1 hp
  have hS : sealCell k c p = sealData k c p ++ bytes4 (cellCheck k c (sealData k c p)) := by unfold sealCell; rw [if_pos h]
  have hs := stream18_len (khash k [61, c])
  have hl : (sealPlain (khash k [61, c]) p).length = 20 := by
    simp only [sealPlain, List.length_cons, List.length_append, List.length_drop]; omega
  have hd : (sealData k c p).length = 20 := by unfold sealData; rw [encB_len, hl]
  have h4 : (bytes4 (cellCheck k c (sealData k c p))).length = 4 := bytes4_len _
  have ht : (sealCell k c p).take 20 = sealData k c p := by rw [hS, List.take_append_of_le_length (by omega), List.take_of_length_le (by omega)]
  have hr : (sealCell k c p).drop 20 = bytes4 (cellCheck k c (sealData k c p)) := by rw [hS, List.drop_append_of_le_length (by omega), List.drop_of_length_le (by omega), List.nil_append]
  have hn : (sealCell k c p).length = 24 := by rw [hS, List.length_append, hd, h4]
  have hh : openHead k c (sealCell k c p) = true := by
    unfold openHead
    rw [ht, hr, hk, hc, decide_eq_true hn]
    simp
  have hB : openB k c (sealCell k c p) = sealPlain (khash k [61, c]) p := by unfold openB; rw [ht]; unfold sealData; exact decB_encB _ _
  have g0 : (sealPlain (khash k [61, c]) p).getD 0 0 = Vm.byteOf p.Kind := rfl
  have g1 : (sealPlain (khash k [61, c]) p).getD 1 0 = Vm.byteOf p.Body.length := rfl
  have b0 : ((Vm.byteOf p.Kind).toNat : Int) = p.Kind := by rw [byteOf_int]; omega
  have b1 : (Vm.byteOf (p.Body.length : Int)).toNat = p.Body.length := by have := byteOf_int (p.Body.length : Int); omega
  have ho : openOk k c (sealCell k c p) = true := by
    unfold openOk
    rw [hh, hB, g0, g1, b1, decide_eq_true (show (Vm.byteOf p.Kind).toNat ≤ 3 by omega), decide_eq_true (show p.Body.length ≤ 14 by omega)]
    rfl
  refine ⟨ho, ?_⟩
  unfold openCell
  rw [if_pos ho, hB, g0, g1, b0, b1]
  have e : ((sealPlain (khash k [61, c]) p).drop 2).take p.Body.length = p.Body := by
    show ((p.Body ++ (stream (khash k [61, c]) 18).drop p.Body.length)).take p.Body.length = p.Body
    rw [List.take_append_of_le_length (Nat.le_refl _), List.take_length]
  rw [e]
theorem dirKey_ok (k d : Int) : inR (dirKey k d) 1 2147483646 = true := by
  have := khash_range k [83, d]
  unfold dirKey orOne
  rw [inR_iff]
  split <;> omega
def frA (k : Int) : DClient := ⟨2, 5, k, 7, [[1, 2]], 0, [], 0⟩
def frB (k : Int) (v : UInt8) : DClient := ⟨5, 2, k, 8, [[v]], 0, [], 0⟩
def frX (k : Int) : List UInt8 := sealCell (dirKey k 0) 0 ⟨1, [1, 2]⟩
def frY (k : Int) (v : UInt8) : List UInt8 := sealCell (dirKey k 1) 0 ⟨1, [v]⟩
def frC (k r : Int) (v : UInt8) : DClient := ⟨2, 5, k, 7, [[1, 2]], 1, [[v]], r + 1⟩
def frD (k r : Int) (v : UInt8) : DClient := ⟨5, 2, k, 8, [[v]], 1, [[1, 2]], r + 1⟩
theorem openX (k : Int) : openOk (dirKey k 0) 0 (frX k) = true ∧ openCell (dirKey k 0) 0 (frX k) = ⟨1, [1, 2]⟩ :=
  open_seal (by unfold sealOk; rw [dirKey_ok]; rfl)
theorem openY (k : Int) (v : UInt8) : openOk (dirKey k 1) 0 (frY k v) = true ∧ openCell (dirKey k 1) 0 (frY k v) = ⟨1, [v]⟩ :=
  open_seal (by unfold sealOk; rw [dirKey_ok]; rfl)
section
variable {k r : Int} {v : UInt8} (hk : inR k 1 2147483646 = true) (hr : inR r 0 99998 = true)
include hk
theorem frA_ok : clientOk (frA k) = true := by
  have h := inR_iff.1 hk
  simp [clientOk, okC, bodiesOk, long, frA, inR, h.1, h.2]
theorem frB_ok : clientOk (frB k v) = true := by
  have h := inR_iff.1 hk
  simp [clientOk, okC, bodiesOk, long, frB, inR, h.1, h.2]
theorem newA : newClient 2 5 k 7 = ⟨2, 5, k, 7, [], 0, [], 0⟩ := by
  unfold newClient okC; rw [hk]; rfl
theorem newB : newClient 5 2 k 8 = ⟨5, 2, k, 8, [], 0, [], 0⟩ := by
  unfold newClient okC; rw [hk]; rfl
theorem queA : queued ⟨2, 5, k, 7, [], 0, [], 0⟩ [1, 2] = true ∧ queueC ⟨2, 5, k, 7, [], 0, [], 0⟩ [1, 2] = frA k := by
  have h := inR_iff.1 hk
  have e : queued ⟨2, 5, k, 7, [], 0, [], 0⟩ [1, 2] = true := by simp [queued, queue, clientOk, okC, bodiesOk, long, inR, h.1, h.2]
  exact ⟨e, by unfold queueC; rw [e]; rfl⟩
theorem queB : queued ⟨5, 2, k, 8, [], 0, [], 0⟩ [v] = true ∧ queueC ⟨5, 2, k, 8, [], 0, [], 0⟩ [v] = frB k v := by
  have h := inR_iff.1 hk
  have e : queued ⟨5, 2, k, 8, [], 0, [], 0⟩ [v] = true := by simp [queued, queue, clientOk, okC, bodiesOk, long, inR, h.1, h.2]
  exact ⟨e, by unfold queueC; rw [e]; rfl⟩
include hr
theorem wrA : writes (frA k) r 24 = true ∧ writeRow (frA k) r 24 = mailRow k r 0 24 ∧ writeCell (frA k) r 24 = frX k := by
  have h := inR_iff.1 hr
  have e : writes (frA k) r 24 = true := by
    unfold writes; rw [frA_ok hk, inR_iff.2 (by omega)]; rfl
  refine ⟨e, ?_, ?_⟩
  · unfold writeRow; rw [e]; rfl
  · unfold writeCell; rw [e]; rfl
theorem wrB : writes (frB k v) r 24 = true ∧ writeRow (frB k v) r 24 = mailRow k r 1 24 ∧ writeCell (frB k v) r 24 = frY k v := by
  have h := inR_iff.1 hr
  have e : writes (frB k v) r 24 = true := by
    unfold writes; rw [frB_ok hk, inR_iff.2 (by omega)]; rfl
  refine ⟨e, ?_, ?_⟩
  · unfold writeRow; rw [e]; rfl
  · unfold writeCell; rw [e]; rfl
theorem rdA : readsOk (frA k) r = true ∧ readC (frA k) r (frX k) (frY k v) = frC k r v := by
  have h := inR_iff.1 hr
  have e : readsOk (frA k) r = true := by
    unfold readsOk; rw [frA_ok hk, show inR r (frA k).Next 99999 = true from inR_iff.2 (by show (0 : Int) ≤ r ∧ r ≤ 99999; omega)]; rfl
  have e1 : readSent (frA k) (frX k) = 1 := by
    have : (frX k == msgCell (frA k) (by show (0 : Nat) < 1; decide)) = true := by rw [beq_iff_eq]; rfl
    unfold readSent
    rw [dif_pos (by show (0 : Nat) < 1; decide), if_pos this]; rfl
  have e2 : readInbox (frA k) (frY k v) = [[v]] := by
    have ho : openOk (dirKey (frA k).Key (1 - dirOf (frA k))) (frA k).Inbox.length (frY k v) = true := (openY k v).1
    have hc : readOpen (frA k) (frY k v) = ⟨1, [v]⟩ := (openY k v).2
    unfold readInbox readTake
    rw [ho, hc]; rfl
  refine ⟨e, ?_⟩
  unfold readC
  rw [e, if_pos rfl, e1, e2]; rfl
theorem rdB : readsOk (frB k v) r = true ∧ readC (frB k v) r (frY k v) (frX k) = frD k r v := by
  have h := inR_iff.1 hr
  have e : readsOk (frB k v) r = true := by
    unfold readsOk; rw [frB_ok hk, show inR r (frB k v).Next 99999 = true from inR_iff.2 (by show (0 : Int) ≤ r ∧ r ≤ 99999; omega)]; rfl
  have e1 : readSent (frB k v) (frY k v) = 1 := by
    have : (frY k v == msgCell (frB k v) (by show (0 : Nat) < 1; decide)) = true := by rw [beq_iff_eq]; rfl
    unfold readSent
    rw [dif_pos (by show (0 : Nat) < 1; decide), if_pos this]; rfl
  have e2 : readInbox (frB k v) (frX k) = [[1, 2]] := by
    have ho : openOk (dirKey (frB k v).Key (1 - dirOf (frB k v))) (frB k v).Inbox.length (frX k) = true := (openX k).1
    have hc : readOpen (frB k v) (frX k) = ⟨1, [1, 2]⟩ := (openX k).2
    unfold readInbox readTake
    rw [ho, hc]; rfl
  refine ⟨e, ?_⟩
  unfold readC
  rw [e, if_pos rfl, e1, e2]; rfl
theorem frC_ok : clientOk (frC k r v) = true := by
  have h := inR_iff.1 hk
  have h2 := inR_iff.1 hr
  have h3 : 0 ≤ r + 1 := by omega
  have h4 : r + 1 ≤ 100000 := by omega
  simp [clientOk, okC, bodiesOk, long, frC, inR, h.1, h.2, h3, h4]
end
end Go.Proofs.Ytpelgajmebgbaaa
