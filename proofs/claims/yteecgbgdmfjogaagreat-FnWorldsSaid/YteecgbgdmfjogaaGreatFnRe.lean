/-
  Contracts: what a client writes.
  Contracts: opened cells; what a client reads.
  Contracts: what a client reads; reading on a device.
  Conditions: none.
-/
import Derived.Test.YteecgbgdmfjogaaGreatFnO
namespace Go.Proofs.YteecgbgdmfjogaaGreat
set_option maxHeartbeats 4000000
set_option maxRecDepth 20000
open Go.Vm Go.RowKit
attribute [local irreducible] FnAt MutAt InAt JAt CurAt FnE CurE RegAt

def coverRow (s r n : Int) : Int := if inR n 1 64 then (child (khash s [157, r]) 0).tmod n else -1
def coverCell (s : Int) : List UInt8 := stream (khash s [73]) 24
def dirKey (k d : Int) : Int := orOne (khash k [83, d])
theorem c_sDirectionKey (k d : Int) : FnAt Tryz.prog 127 [.one (I k), .one (I d)] [.one (.s (I (dirKey k d)))] := by
  refine fn_of Tryz.func127 rfl (by kernel_rfl) rfl ?_
  all_goals repeat' (first | (with_reducible rfl) | ((conv => whnf); first | exact trivial | (with_reducible rfl) | exact (rfl : (0 : Int) = ((0 : Nat) : Int)) | exact w64_nat arith | refine bcase_T (by first | with_reducible rfl | decide) ?_ | refine bcase_F (by first | with_reducible rfl | decide) ?_ | refine bcase_dec (fun _ => ?_) (fun _ => ?_) | refine bcase_not ?_ | refine bcase_intro (fun _ => ?_) (fun _ => ?_) | refine ⟨(by with_reducible rfl), ?_⟩ | refine ⟨congrArg vi ?_, ?_⟩ | refine ⟨congrArg vb ?_, ?_⟩ | refine ⟨rfl, ?_⟩ | refine ⟨(by kernel_rfl : drawOK _ = true), ?_⟩ | refine Or.inl ?_ | refine ⟨⟨congrArg (T.int _) ?_, rfl⟩, ?_⟩ | refine ⟨⟨congrArg T.bool ?_, rfl⟩, ?_⟩ | refine ⟨⟨rfl, Nat.le_of_ble_eq_true rfl⟩, ?_⟩ | refine ⟨⟨rfl, rfl⟩, ?_⟩ | refine ⟨⟨rfl, (by decide)⟩, ?_⟩ | refine ⟨⟨rfl, ?_⟩, ?_⟩ | refine ⟨Or.inr rfl, ?_⟩ | refine ⟨Or.inl rfl, ?_⟩ | refine ⟨⟨⟨rfl, rfl, rfl⟩, ?_⟩, ?_⟩ | refine ⟨_, _, rfl, row_get _ _ arith, rfl, ?_⟩ | refine ⟨Or.inr (by repeat (first | exact trivial | refine ⟨rfl, ?_⟩)), ?_⟩ | refine ⟨(?_ : _ = ([] : List (List T))), ?_⟩ | refine ⟨_, c_sKeyedHash k [83, d] (by simp), ?_⟩ | refine ⟨_, c_sMax1 _ (khash_range _ _).1, ?_⟩ | fail))
  all_goals rfl
def msgCell (c : DClient) (h : c.Sent.toNat < c.Submitted.length) : List UInt8 := sealCell (dirKey c.Key (dirOf c)) c.Sent ⟨1, c.Submitted[c.Sent.toNat]⟩
theorem c_l29Cell (c : DClient) (h0 : 0 ≤ c.Sent) (h : c.Sent.toNat < c.Submitted.length) (_ : bigC c) (hl : (c.Submitted[c.Sent.toNat]).length ≤ 1048576) : FnAt Tryz.prog 125 [.agg (DClient.e c)] [.one (.l 1 ((msgCell c h).map eU))] := by
  have hm : (c.Submitted.map (eL eU)).length = c.Submitted.length := List.length_map (eL eU)
  refine fn_of Tryz.func125 rfl (by kernel_rfl) rfl ?_
  all_goals repeat' (first | (with_reducible rfl) | ((conv => whnf); first | exact trivial | (with_reducible rfl) | exact (rfl : (0 : Int) = ((0 : Nat) : Int)) | exact w64_nat arith | refine bcase_T (by first | with_reducible rfl | decide) ?_ | refine bcase_F (by first | with_reducible rfl | decide) ?_ | refine bcase_dec (fun _ => ?_) (fun _ => ?_) | refine bcase_not ?_ | refine bcase_intro (fun _ => ?_) (fun _ => ?_) | refine ⟨(by with_reducible rfl), ?_⟩ | refine ⟨congrArg vi ?_, ?_⟩ | refine ⟨congrArg vb ?_, ?_⟩ | refine ⟨rfl, ?_⟩ | refine ⟨(by kernel_rfl : drawOK _ = true), ?_⟩ | refine Or.inl ?_ | refine ⟨⟨congrArg (T.int _) ?_, rfl⟩, ?_⟩ | refine ⟨⟨congrArg T.bool ?_, rfl⟩, ?_⟩ | refine ⟨⟨rfl, Nat.le_of_ble_eq_true rfl⟩, ?_⟩ | refine ⟨⟨rfl, rfl⟩, ?_⟩ | refine ⟨⟨rfl, (by decide)⟩, ?_⟩ | refine ⟨⟨rfl, ?_⟩, ?_⟩ | refine ⟨Or.inr rfl, ?_⟩ | refine ⟨Or.inl rfl, ?_⟩ | refine ⟨⟨⟨rfl, rfl, rfl⟩, ?_⟩, ?_⟩ | refine ⟨_, _, rfl, row_get _ _ arith, rfl, ?_⟩ | refine ⟨Or.inr (by repeat (first | exact trivial | refine ⟨rfl, ?_⟩)), ?_⟩ | refine ⟨(?_ : _ = ([] : List (List T))), ?_⟩ | refine ⟨_, c_l29Direction c, ?_⟩ | refine ⟨_, c_sDirectionKey _ _, ?_⟩ | refine ⟨c.Sent.toNat, (by omega), (by omega), ?_⟩ | refine ⟨c.Sent.toNat, _, (by omega), row_get _ _ (by omega), rfl, ?_⟩ | refine ⟨_, c_sSealCell (dirKey c.Key (dirOf c)) c.Sent ⟨1, c.Submitted[c.Sent.toNat]⟩ hl, ?_⟩ | fail))
  all_goals rfl
def writes (c : DClient) (r n : Int) : Bool := clientOk c && inR r 0 100000 && inR n 1 64
theorem clientOk_sent {c : DClient} (h : clientOk c = true) : 0 ≤ c.Sent := by
  simp only [clientOk, Bool.and_eq_true] at h
  exact (inR_iff.1 h.1.2).1
theorem clientOk_body {c : DClient} (h : clientOk c = true) {i : Nat} (hi : i < c.Submitted.length) : (c.Submitted[i]).length ≤ 14 := by
  simp only [clientOk, bodiesOk, Bool.and_eq_true, Bool.not_eq_true', List.any_eq_false] at h
  have := h.1.1.1.2.1 _ (List.getElem_mem hi)
  simp only [long, decide_eq_true_eq] at this
  omega
def writeRow (c : DClient) (r n : Int) : Int := if writes c r n then (if c.Sent < c.Submitted.length then mailRow c.Key r (dirOf c) n else coverRow c.Seed r n) else 0
def writeCell (c : DClient) (r n : Int) : List UInt8 := if writes c r n then (if h : c.Sent.toNat < c.Submitted.length then msgCell c h else coverCell (khash c.Seed [r])) else []
theorem writeCell_len (c : DClient) (r n : Int) : (writeCell c r n).length ≤ 1048576 := by
  unfold writeCell
  split
  · next hw =>
    split
    · next h =>
      unfold msgCell sealCell
      split
      · have h1 : clientOk c = true := by simp only [writes, Bool.and_eq_true] at hw; exact hw.1.1
        have h2 := clientOk_body h1 h
        have h3 := sealPlain_len (khash (dirKey c.Key (dirOf c)) [61, c.Sent]) ⟨1, c.Submitted[c.Sent.toNat]⟩
        have h4 := encB_len (cellKey (dirKey c.Key (dirOf c)) c.Sent) (sealPlain (khash (dirKey c.Key (dirOf c)) [61, c.Sent]) ⟨1, c.Submitted[c.Sent.toNat]⟩)
        rw [List.length_append, bytes4_len, sealData, h4]
        dsimp only at h3
        omega
      · exact Nat.zero_le _
    · unfold coverCell; rw [stream_T (by decide), strm_len]; decide
  · exact Nat.zero_le _
end Go.Proofs.YteecgbgdmfjogaaGreat

namespace Go.Proofs.YteecgbgdmfjogaaGreat
set_option maxHeartbeats 4000000
set_option maxRecDepth 20000
open Go.Vm Go.RowKit
attribute [local irreducible] FnAt MutAt InAt JAt CurAt FnE CurE RegAt

theorem or_join {A B k : Nat} (hA : A < 2 ^ k) (hs : 2 ^ k * B + A < 9223372036854775808) : bits .or .i64 (A : Int) ((2 ^ k * B : Nat) : Int) = ((2 ^ k * B + A : Nat) : Int) := by
  have e : A ||| 2 ^ k * B = 2 ^ k * B + A := by rw [Nat.or_comm, Nat.two_pow_add_eq_or_of_lt hA]
  show IntKind.i64.wrap ((BitVec.ofInt 64 (A : Int) ||| BitVec.ofInt 64 ((2 ^ k * B : Nat) : Int)).toNat : Int) = _
  have h1 : (BitVec.ofInt 64 (A : Int)).toNat = A := by
    rw [BitVec.toNat_ofInt]; omega
  have h2 : (BitVec.ofInt 64 ((2 ^ k * B : Nat) : Int)).toNat = 2 ^ k * B := by
    rw [BitVec.toNat_ofInt]; omega
  rw [BitVec.toNat_or, h1, h2, e]
  exact w64_ok (by omega) (by omega)
def join4 (a b c d : UInt8) : Int := (a.toNat : Int) + 256 * b.toNat + 65536 * c.toNat + 16777216 * d.toNat
theorem join4_run (a b c d : UInt8) : bits .or .i64 (bits .or .i64 (bits .or .i64 (IntKind.i64.wrap (a.toNat : Int)) (IntKind.i64.wrap (IntKind.i64.wrap (b.toNat : Int) * 2 ^ (min (8 : Int).toNat IntKind.i64.bits)))) (IntKind.i64.wrap (IntKind.i64.wrap (c.toNat : Int) * 2 ^ (min (16 : Int).toNat IntKind.i64.bits)))) (IntKind.i64.wrap (IntKind.i64.wrap (d.toNat : Int) * 2 ^ (min (24 : Int).toNat IntKind.i64.bits))) = join4 a b c d := by
  have ha := a.toNat_lt; have hb := b.toNat_lt; have hc := c.toNat_lt; have hd := d.toNat_lt
  have e1 : IntKind.i64.wrap (IntKind.i64.wrap (b.toNat : Int) * 2 ^ (min (8 : Int).toNat IntKind.i64.bits)) = ((2 ^ 8 * b.toNat : Nat) : Int) := by
    show IntKind.i64.wrap (IntKind.i64.wrap (b.toNat : Int) * 256) = _
    rw [wrap_byte, w64_ok (by omega) (by omega)]; omega
  have e2 : IntKind.i64.wrap (IntKind.i64.wrap (c.toNat : Int) * 2 ^ (min (16 : Int).toNat IntKind.i64.bits)) = ((2 ^ 16 * c.toNat : Nat) : Int) := by
    show IntKind.i64.wrap (IntKind.i64.wrap (c.toNat : Int) * 65536) = _
    rw [wrap_byte, w64_ok (by omega) (by omega)]; omega
  have e3 : IntKind.i64.wrap (IntKind.i64.wrap (d.toNat : Int) * 2 ^ (min (24 : Int).toNat IntKind.i64.bits)) = ((2 ^ 24 * d.toNat : Nat) : Int) := by
    show IntKind.i64.wrap (IntKind.i64.wrap (d.toNat : Int) * 16777216) = _
    rw [wrap_byte, w64_ok (by omega) (by omega)]; omega
  rw [e1, e2, e3, wrap_byte, or_join (by omega) (by omega), or_join (by omega) (by omega), or_join (by omega) (by omega)]
  unfold join4
  omega
theorem drop20 {b : List UInt8} (h : b.length = 24) : b.drop 20 = [b[20], b[21], b[22], b[23]] := by
  apply List.ext_getElem
  · simp [h]
  · intro i h1 h2
    have h3 : i < 4 := by simpa using h2
    rw [List.getElem_drop]
    rcases i with _ | _ | _ | _ | i
    · rfl
    · rfl
    · rfl
    · rfl
    · omega
theorem check_eq {b : List UInt8} (h : b.length = 24) (k c : Int) (d : List UInt8) : (b.drop 20 == bytes4 (cellCheck k c d)) = decide (join4 b[20] b[21] b[22] b[23] = cellCheck k c d) := by
  have := cellCheck_range k c d
  rw [drop20 h, bytes4_tell this.1 (by omega)]
  rfl
attribute [local irreducible] bytes4 Vm.byteOf join4 bits cellKey
def openHead (k c : Int) (b : List UInt8) : Bool := inR k 1 2147483646 && inR c 0 1000000000000 && decide (b.length = 24) && (b.drop 20 == bytes4 (cellCheck k c (b.take 20)))
def openB (k c : Int) (b : List UInt8) : List UInt8 := decB (cellKey k c) (b.take 20)
def openOk (k c : Int) (b : List UInt8) : Bool := openHead k c b && decide (((openB k c b).getD 0 0).toNat ≤ 3) && decide (((openB k c b).getD 1 0).toNat ≤ 14)
def openCell (k c : Int) (b : List UInt8) : DPlain := if openOk k c b then ⟨((openB k c b).getD 0 0).toNat, ((openB k c b).drop 2).take ((openB k c b).getD 1 0).toNat⟩ else ⟨0, []⟩
theorem openB_len {k c : Int} {b : List UInt8} (h : b.length = 24) : (openB k c b).length = 20 := by unfold openB; rw [decB_len, List.length_take]; omega
theorem openCell_len (k c : Int) (b : List UInt8) : (openCell k c b).Body.length ≤ 14 := by
  unfold openCell
  split
  · next h =>
    simp only [openOk, Bool.and_eq_true, decide_eq_true_eq] at h
    simp only [List.length_take]
    omega
  · exact Nat.zero_le _
theorem open_take (B : List UInt8) (n : Nat) : ((B.map eU).take (n + 2)).drop 2 = ((B.drop 2).take n).map eU := by
  rw [List.drop_take, ← List.map_drop, ← List.map_take]; rfl
end Go.Proofs.YteecgbgdmfjogaaGreat

namespace Go.Proofs.YteecgbgdmfjogaaGreat
set_option maxHeartbeats 4000000
set_option maxRecDepth 20000
open Go.Vm Go.RowKit
attribute [local irreducible] FnAt MutAt InAt JAt CurAt FnE CurE RegAt

attribute [local irreducible] openCell openOk msgCell dirKey
def readsOk (c : DClient) (r : Int) : Bool := clientOk c && inR r c.Next 99999
def readSent (c : DClient) (own : List UInt8) : Int := if h : c.Sent.toNat < c.Submitted.length then (if own == msgCell c h then c.Sent + 1 else c.Sent) else c.Sent
def readOpen (c : DClient) (other : List UInt8) : DPlain := openCell (dirKey c.Key (1 - dirOf c)) c.Inbox.length other
def readTake (c : DClient) (other : List UInt8) : Bool := openOk (dirKey c.Key (1 - dirOf c)) c.Inbox.length other && decide ((readOpen c other).Kind = 1) && decide ((c.Inbox.length : Int) < 16)
def readInbox (c : DClient) (other : List UInt8) : List (List UInt8) := if readTake c other then c.Inbox ++ [(readOpen c other).Body] else c.Inbox
def readC (c : DClient) (r : Int) (own other : List UInt8) : DClient := if readsOk c r then { c with Sent := readSent c own, Inbox := readInbox c other, Next := r + 1 } else c
theorem dir_flip (c : DClient) : IntKind.i64.wrap (1 - dirOf c) = 1 - dirOf c := by unfold dirOf; split <;> rfl
theorem readOpen_len (c : DClient) (other : List UInt8) : (readOpen c other).Body.length ≤ 14 := openCell_len _ _ _
theorem readInbox_len (c : DClient) (other : List UInt8) (h : c.Inbox.length ≤ 1099511627776) : (readInbox c other).length ≤ 1099511627776 := by
  unfold readInbox
  split
  · next e =>
    simp only [readTake, Bool.and_eq_true, decide_eq_true_eq] at e
    simp only [List.length_append, List.length_cons, List.length_nil]
    omega
  · exact h
theorem readC_big {c : DClient} (r : Int) (own other : List UInt8) (h : bigC c) : bigC (readC c r own other) := by
  unfold readC
  split
  · refine ⟨h.1, readInbox_len c other h.2.1, fun x hx => ?_⟩
    simp only [readInbox] at hx
    split at hx
    · rcases List.mem_append.1 hx with hx | hx
      · exact h.2.2 x hx
      · have := readOpen_len c other
        rw [List.mem_singleton.1 hx]; omega
    · exact h.2.2 x hx
  · exact h
theorem clientOk_next {c : DClient} (h : clientOk c = true) : 0 ≤ c.Next ∧ c.Sent ≤ c.Submitted.length := by
  simp only [clientOk, Bool.and_eq_true] at h
  exact ⟨(inR_iff.1 h.2).1, (inR_iff.1 h.1.2).2⟩
end Go.Proofs.YteecgbgdmfjogaaGreat
