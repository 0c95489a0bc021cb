/-
  Contracts: what servers publish.
  Conditions: none.
-/
import Derived.Test.YtpipfobdfcnghaaFnS2
import Derived.Test.YtpipfobdfcnghaaVmAk
namespace Go.Proofs.Ytpipfobdfcnghaa
set_option maxHeartbeats 4000000
set_option maxRecDepth 20000
open Go.Vm Go.RowKit
attribute [local irreducible] FnAt MutAt InAt JAt CurAt FnE CurE RegAt
attribute [local irreducible] bits
def flipR : List (List UInt8) → List (List UInt8)
  | (x :: ir) :: rest => ((x ^^^ 1) :: ir) :: rest
  | l => l
def pubS (s : DServer) : DDatabase := if servOk s then (if s.Behavior = 1 then sumD s.Rows (s.Received.drop 1) else if s.Behavior = 2 then ⟨flipR (sumD s.Rows s.Received).Rows⟩ else sumD s.Rows s.Received) else ⟨[]⟩
theorem flipR_len (l : List (List UInt8)) : (flipR l).length = l.length := by
  unfold flipR
  split <;> rfl
theorem flipR_mem {l : List (List UInt8)} {B : Nat} (h : ∀ x ∈ l, x.length ≤ B) : ∀ x ∈ flipR l, x.length ≤ B := by
  unfold flipR
  split
  · intro x hx
    rcases List.mem_cons.1 hx with rfl | hx
    · exact Nat.le_trans (Nat.le_of_eq (by simp)) (h _ List.mem_cons_self)
    · exact h x (by simp [hx])
  · exact h
theorem pubS_big (s : DServer) (h : bigS s) : bigB (pubS s).Rows := by
  unfold pubS
  have h1 := sumD_big s.Rows s.Received h.2
  split
  · split
    · exact sumD_big _ _ (fun r hr => h.2 r (List.mem_of_mem_drop hr))
    · split
      · exact ⟨by rw [flipR_len]; exact h1.1, flipR_mem h1.2⟩
      · exact h1
  · exact ⟨by simp, by simp⟩
def full (n : Nat) (d : DDatabase) : Prop := d.Rows.length = n ∧ ∀ x ∈ d.Rows, x.length = 24
theorem dbOk_rows {d : DDatabase} (h : dbOk d = true) : ∀ x ∈ d.Rows, x.length = 24 := by
  intro x hx
  simp only [dbOk, Bool.and_eq_true, Bool.not_eq_true', List.any_eq_false] at h
  have := h.2 x hx
  simp only [rowBad, Bool.not_eq_true', decide_eq_false_iff_not] at this
  omega
theorem full_xor {n : Nat} {a b : DDatabase} (h : full n a) : full n (xorDb a b) := by
  unfold xorDb
  split
  · next e =>
    simp only [xorOk, Bool.and_eq_true, decide_eq_true_eq] at e
    have hb := dbOk_rows e.1.2
    refine ⟨by rw [List.length_zipWith]; have := h.1; have := e.2; omega, fun x hx => ?_⟩
    obtain ⟨i, hi, rfl⟩ := List.mem_iff_getElem.1 hx
    rw [List.getElem_zipWith, xorB_len, h.2 _ (List.getElem_mem _), hb _ (List.getElem_mem _)]
    rfl
  · exact h
theorem full_sum {n : Int} (hn : inR n 1 64 = true) (l : List DReceivedShare) : full n.toNat (sumD n l) := by
  have h3 := inR_iff.1 hn
  have h0 : full n.toNat (newDb n) := by
    unfold newDb
    rw [if_pos (inR_iff.2 (by omega))]
    exact ⟨by simp, fun x hx => by rw [(List.mem_replicate.1 hx).2]; exact List.length_replicate⟩
  have key : ∀ (l : List DReceivedShare) (d : DDatabase), full n.toNat d → full n.toNat (l.foldl (fun d r => xorDb d r.Share) d) := by
    intro l
    induction l with
    | nil => exact fun d h => h
    | cons r l ih => exact fun d h => ih _ (full_xor h)
  exact key l _ h0
theorem servOk_rows {s : DServer} (h : servOk s = true) : inR s.Rows 1 64 = true := by
  simp only [servOk, servHead, Bool.and_eq_true] at h
  simp_all
theorem full_first {n : Nat} {d : DDatabase} (h : full n d) (hn : 0 < n) : ∃ x ir rest, d.Rows = (x :: ir) :: rest := by
  obtain ⟨h1, h2⟩ := h
  cases e : d.Rows with
  | nil => rw [e] at h1; simp at h1; omega
  | cons y rest =>
    have := h2 y (by rw [e]; simp)
    cases y with
    | nil => simp at this
    | cons x ir => exact ⟨x, ir, rest, rfl⟩
theorem drop_min (l : List DReceivedShare) : ((l.map DReceivedShare.e).take (l.map DReceivedShare.e).length).drop (min 1 l.length) = (l.drop 1).map DReceivedShare.e := by
  rw [List.take_length]
  cases l with
  | nil => rfl
  | cons a l => simp
theorem c_sPublishShare (s : DServer) (h : bigS s) : FnAt Try.prog 44 [.agg (DServer.e s)] [.agg (DDatabase.r (pubS s))] := by
  have hx := h.1
  cases hv : servOk s with
  | false =>
    have i0 := c_sIsValidServer s h
    rw [hv] at i0
    have e : pubS s = ⟨[]⟩ := by unfold pubS; rw [hv]; rfl
    rw [e]
    refine fn_of Try.func44 rfl (by kernel_rfl) rfl ?_
    all_goals repeat' (first | (with_reducible rfl) | ((conv => whnf); first | refine ⟨_, i0, ?_⟩ | exact trivial | (with_reducible rfl) | exact (rfl : (0 : Int) = ((0 : Nat) : Int)) | exact w64_nat arith | refine bcase_T (by first | with_reducible rfl | decide) ?_ | refine bcase_F (by first | with_reducible rfl | decide) ?_ | refine bcase_dec (fun _ => ?_) (fun _ => ?_) | refine bcase_not ?_ | refine bcase_intro (fun _ => ?_) (fun _ => ?_) | refine ⟨(by with_reducible rfl), ?_⟩ | refine ⟨congrArg vi ?_, ?_⟩ | refine ⟨congrArg vb ?_, ?_⟩ | refine ⟨rfl, ?_⟩ | refine ⟨(by kernel_rfl : drawOK _ = true), ?_⟩ | refine Or.inl ?_ | refine ⟨⟨congrArg (T.int _) ?_, rfl⟩, ?_⟩ | refine ⟨⟨congrArg T.bool ?_, rfl⟩, ?_⟩ | refine ⟨⟨rfl, Nat.le_of_ble_eq_true rfl⟩, ?_⟩ | refine ⟨⟨rfl, rfl⟩, ?_⟩ | refine ⟨⟨rfl, (by decide)⟩, ?_⟩ | refine ⟨⟨rfl, ?_⟩, ?_⟩ | refine ⟨Or.inr rfl, ?_⟩ | refine ⟨Or.inl rfl, ?_⟩ | refine ⟨⟨⟨rfl, rfl, rfl⟩, ?_⟩, ?_⟩ | refine ⟨_, _, rfl, row_get _ _ arith, rfl, ?_⟩ | refine ⟨Or.inr (by repeat (first | exact trivial | refine ⟨rfl, ?_⟩)), ?_⟩ | refine ⟨(?_ : _ = ([] : List (List T))), ?_⟩ | fail))
    all_goals (try rfl)
  | true =>
    have i0 := c_sIsValidServer s h
    rw [hv] at i0
    by_cases b1 : s.Behavior = 1
    · have e : pubS s = sumD s.Rows (s.Received.drop 1) := by unfold pubS; rw [if_pos hv, if_pos b1]
      rw [e]
      have i1 := c_l25Sum s 1 (by decide) h
      refine fn_of Try.func44 rfl (by kernel_rfl) rfl ?_
      all_goals repeat' (first | (with_reducible rfl) | ((conv => whnf); first | refine ⟨_, i0, ?_⟩ | refine bcase_T (by rw [b1]; rfl) ?_ | refine bcase_F (by rw [b1]; rfl) ?_ | refine ⟨_, i1, ?_⟩ | exact trivial | (with_reducible rfl) | exact (rfl : (0 : Int) = ((0 : Nat) : Int)) | exact w64_nat arith | refine bcase_T (by first | with_reducible rfl | decide) ?_ | refine bcase_F (by first | with_reducible rfl | decide) ?_ | refine bcase_dec (fun _ => ?_) (fun _ => ?_) | refine bcase_not ?_ | refine bcase_intro (fun _ => ?_) (fun _ => ?_) | refine ⟨(by with_reducible rfl), ?_⟩ | refine ⟨congrArg vi ?_, ?_⟩ | refine ⟨congrArg vb ?_, ?_⟩ | refine ⟨rfl, ?_⟩ | refine ⟨(by kernel_rfl : drawOK _ = true), ?_⟩ | refine Or.inl ?_ | refine ⟨⟨congrArg (T.int _) ?_, rfl⟩, ?_⟩ | refine ⟨⟨congrArg T.bool ?_, rfl⟩, ?_⟩ | refine ⟨⟨rfl, Nat.le_of_ble_eq_true rfl⟩, ?_⟩ | refine ⟨⟨rfl, rfl⟩, ?_⟩ | refine ⟨⟨rfl, (by decide)⟩, ?_⟩ | refine ⟨⟨rfl, ?_⟩, ?_⟩ | refine ⟨Or.inr rfl, ?_⟩ | refine ⟨Or.inl rfl, ?_⟩ | refine ⟨⟨⟨rfl, rfl, rfl⟩, ?_⟩, ?_⟩ | refine ⟨_, _, rfl, row_get _ _ arith, rfl, ?_⟩ | refine ⟨Or.inr (by repeat (first | exact trivial | refine ⟨rfl, ?_⟩)), ?_⟩ | refine ⟨(?_ : _ = ([] : List (List T))), ?_⟩ | fail))
      all_goals trace_state
    · by_cases b2 : s.Behavior = 2
      · have e : pubS s = ⟨flipR (sumD s.Rows s.Received).Rows⟩ := by unfold pubS; rw [if_pos hv, if_neg b1, if_pos b2]
        obtain ⟨x, ir, rest, hr⟩ := full_first (full_sum (servOk_rows hv) s.Received) (by have := inR_iff.1 (servOk_rows hv); omega)
        have i1 := c_l25Sum s 0 (by decide) h
        have e1 : DDatabase.r (sumD s.Rows s.Received) = [.l 1 ([T.lst ([T.int .u8 (x.toNat : Int)] :: ir.map eU)] :: rest.map (eL eU))] := by unfold DDatabase.r; rw [hr]; rfl
        rw [List.drop_zero, e1] at i1
        have e2 : DDatabase.r (pubS s) = [.l 1 ([T.lst ([T.int .u8 (bits .xor .u8 (x.toNat : Int) 1)] :: ir.map eU)] :: rest.map (eL eU))] := by
          rw [e]; unfold DDatabase.r; rw [hr, show (1 : Int) = (((1 : UInt8).toNat : Nat) : Int) from rfl, u8_xor2]; rfl
        rw [e2]
        refine fn_of Try.func44 rfl (by kernel_rfl) rfl ?_
        all_goals repeat' (first | (with_reducible rfl) | ((conv => whnf); first | refine ⟨_, i0, ?_⟩ | refine ⟨_, i1, ?_⟩ | refine bcase_T (by rw [b2]; rfl) ?_ | refine bcase_F (by rw [b2]; rfl) ?_ | refine regAt_nestD (b := 3) (t := 18) tys_ok (by kernel_rfl) rfl rfl rfl rfl ⟨_, rfl⟩ rfl rfl rfl rfl rfl rfl rfl rfl rfl rfl (by decide) (by decide) rfl (by kernel_rfl) (by kernel_rfl) (by kernel_rfl) (by kernel_rfl) (by kernel_rfl) (by kernel_rfl) (by kernel_rfl) (by kernel_rfl) (by kernel_rfl) (by kernel_rfl) (by kernel_rfl) (by kernel_rfl) ?_ | exact trivial | (with_reducible rfl) | exact (rfl : (0 : Int) = ((0 : Nat) : Int)) | exact w64_nat arith | refine bcase_T (by first | with_reducible rfl | decide) ?_ | refine bcase_F (by first | with_reducible rfl | decide) ?_ | refine bcase_dec (fun _ => ?_) (fun _ => ?_) | refine bcase_not ?_ | refine bcase_intro (fun _ => ?_) (fun _ => ?_) | refine ⟨(by with_reducible rfl), ?_⟩ | refine ⟨congrArg vi ?_, ?_⟩ | refine ⟨congrArg vb ?_, ?_⟩ | refine ⟨rfl, ?_⟩ | refine ⟨(by kernel_rfl : drawOK _ = true), ?_⟩ | refine Or.inl ?_ | refine ⟨⟨congrArg (T.int _) ?_, rfl⟩, ?_⟩ | refine ⟨⟨congrArg T.bool ?_, rfl⟩, ?_⟩ | refine ⟨⟨rfl, Nat.le_of_ble_eq_true rfl⟩, ?_⟩ | refine ⟨⟨rfl, rfl⟩, ?_⟩ | refine ⟨⟨rfl, (by decide)⟩, ?_⟩ | refine ⟨⟨rfl, ?_⟩, ?_⟩ | refine ⟨Or.inr rfl, ?_⟩ | refine ⟨Or.inl rfl, ?_⟩ | refine ⟨⟨⟨rfl, rfl, rfl⟩, ?_⟩, ?_⟩ | refine ⟨_, _, rfl, row_get _ _ arith, rfl, ?_⟩ | refine ⟨Or.inr (by repeat (first | exact trivial | refine ⟨rfl, ?_⟩)), ?_⟩ | refine ⟨(?_ : _ = ([] : List (List T))), ?_⟩ | fail))
        all_goals trace_state
      · have e : pubS s = sumD s.Rows s.Received := by unfold pubS; rw [if_pos hv, if_neg b1, if_neg b2]
        rw [e]
        have i1 := c_l25Sum s 0 (by decide) h
        rw [List.drop_zero] at i1
        refine fn_of Try.func44 rfl (by kernel_rfl) rfl ?_
        all_goals repeat' (first | (with_reducible rfl) | ((conv => whnf); first | refine ⟨_, i0, ?_⟩ | refine ⟨_, i1, ?_⟩ | refine bcase_F (by first | exact beq_eq_false_iff_ne.2 b1 | exact beq_eq_false_iff_ne.2 b2) ?_ | exact trivial | (with_reducible rfl) | exact (rfl : (0 : Int) = ((0 : Nat) : Int)) | exact w64_nat arith | refine bcase_T (by first | with_reducible rfl | decide) ?_ | refine bcase_F (by first | with_reducible rfl | decide) ?_ | refine bcase_dec (fun _ => ?_) (fun _ => ?_) | refine bcase_not ?_ | refine bcase_intro (fun _ => ?_) (fun _ => ?_) | refine ⟨(by with_reducible rfl), ?_⟩ | refine ⟨congrArg vi ?_, ?_⟩ | refine ⟨congrArg vb ?_, ?_⟩ | refine ⟨rfl, ?_⟩ | refine ⟨(by kernel_rfl : drawOK _ = true), ?_⟩ | refine Or.inl ?_ | refine ⟨⟨congrArg (T.int _) ?_, rfl⟩, ?_⟩ | refine ⟨⟨congrArg T.bool ?_, rfl⟩, ?_⟩ | refine ⟨⟨rfl, Nat.le_of_ble_eq_true rfl⟩, ?_⟩ | refine ⟨⟨rfl, rfl⟩, ?_⟩ | refine ⟨⟨rfl, (by decide)⟩, ?_⟩ | refine ⟨⟨rfl, ?_⟩, ?_⟩ | refine ⟨Or.inr rfl, ?_⟩ | refine ⟨Or.inl rfl, ?_⟩ | refine ⟨⟨⟨rfl, rfl, rfl⟩, ?_⟩, ?_⟩ | refine ⟨_, _, rfl, row_get _ _ arith, rfl, ?_⟩ | refine ⟨Or.inr (by repeat (first | exact trivial | refine ⟨rfl, ?_⟩)), ?_⟩ | refine ⟨(?_ : _ = ([] : List (List T))), ?_⟩ | fail))
        all_goals trace_state
theorem pubs_take (l : List DServer) {i : Nat} (h : i < l.length) : ((l.take (i + 1)).map pubS).map DDatabase.e = ((l.take i).map pubS).map DDatabase.e ++ [DDatabase.e (pubS l[i])] := by
  rw [map_take_succ pubS l h, List.map_append]
  rfl
end Go.Proofs.Ytpipfobdfcnghaa
