/-
  Contracts: what servers publish.
  Conditions: none.
-/
import Derived.Test.YtcoipmjboiegoaaFnS2
import Derived.Test.YtcoipmjboiegoaaVmAk
namespace Go.Proofs.Ytcoipmjboiegoaa
set_option maxHeartbeats 4000000
set_option maxRecDepth 20000
open Go.Vm Go.RowKit
attribute [local irreducible] FnAt MutAt InAt JAt CurAt FnE CurE RegAt
attribute [local irreducible] bits
def flipR : List (List UInt8) → List (List UInt8)
  | (x :: ir) :: rest => ((x ^^^ 1) :: ir) :: rest
  | l => l
def pubS (s : DServer) : DDatabase := if servOk s then (if s.Behavior = 1 then sumD s.Rows (s.Received.drop 1) else if s.Behavior = 2 then ⟨flipR (sumD s.Rows s.Received).Rows⟩ else sumD s.Rows s.Received) else ⟨[]⟩
theorem flipR_len (l : List (List UInt8)) : (flipR l).length = l.length := by
  unfold flipR
  split <;> rfl
theorem flipR_mem {l : List (List UInt8)} {B : Nat} (h : ∀ x ∈ l, x.length ≤ B) : ∀ x ∈ flipR l, x.length ≤ B := by
  unfold flipR
  split
  · intro x hx
    rcases List.mem_cons.1 hx with rfl | hx
    · exact Nat.le_trans (Nat.le_of_eq (by simp)) (h _ List.mem_cons_self)
    · exact h x (by simp [hx])
  · exact h
theorem pubS_big (s : DServer) (h : bigS s) : bigB (pubS s).Rows := by
  unfold pubS
  have h1 := sumD_big s.Rows s.Received h.2
  split
  · split
    · exact sumD_big _ _ (fun r hr => h.2 r (List.mem_of_mem_drop hr))
    · split
      · exact ⟨by rw [flipR_len]; exact h1.1, flipR_mem h1.2⟩
      · exact h1
  · exact ⟨by simp, by simp⟩
def full (n : Nat) (d : DDatabase) : Prop := d.Rows.length = n ∧ ∀ x ∈ d.Rows, x.length = 24
theorem dbOk_rows {d : DDatabase} (h : dbOk d = true) : ∀ x ∈ d.Rows, x.length = 24 := by
  intro x hx
  simp only [dbOk, Bool.and_eq_true, Bool.not_eq_true', List.any_eq_false] at h
  have := h.2 x hx
  simp only [rowBad, Bool.not_eq_true', decide_eq_false_iff_not] at this
  omega
theorem full_xor {n : Nat} {a b : DDatabase} (h : full n a) : full n (xorDb a b) := by
  unfold xorDb
  split
  · next e =>
    simp only [xorOk, Bool.and_eq_true, decide_eq_true_eq] at e
    have hb := dbOk_rows e.1.2
    refine ⟨by rw [List.length_zipWith]; have := h.1; have := e.2; omega, fun x hx => ?_⟩
    obtain ⟨i, hi, rfl⟩ := List.mem_iff_getElem.1 hx
    rw [List.getElem_zipWith, xorB_len, h.2 _ (List.getElem_mem _), hb _ (List.getElem_mem _)]
    rfl
  · exact h
theorem full_sum {n : Int} (hn : inR n 1 64 = true) (l : List DReceivedShare) : full n.toNat (sumD n l) := by
  have h3 := inR_iff.1 hn
  have h0 : full n.toNat (newDb n) := by
    unfold newDb
    rw [if_pos (inR_iff.2 (by omega))]
    exact ⟨by simp, fun x hx => by rw [(List.mem_replicate.1 hx).2]; exact List.length_replicate⟩
  have key : ∀ (l : List DReceivedShare) (d : DDatabase), full n.toNat d → full n.toNat (l.foldl (fun d r => xorDb d r.Share) d) := by
    intro l
    induction l with
    | nil => exact fun d h => h
    | cons r l ih => exact fun d h => ih _ (full_xor h)
  exact key l _ h0
theorem servOk_rows {s : DServer} (h : servOk s = true) : inR s.Rows 1 64 = true := by
  simp only [servOk, servHead, Bool.and_eq_true] at h
  simp_all
theorem full_first {n : Nat} {d : DDatabase} (h : full n d) (hn : 0 < n) : ∃ x ir rest, d.Rows = (x :: ir) :: rest := by
  obtain ⟨h1, h2⟩ := h
  cases e : d.Rows with
  | nil => rw [e] at h1; simp at h1; omega
  | cons y rest =>
    have := h2 y (by rw [e]; simp)
    cases y with
    | nil => simp at this
    | cons x ir => exact ⟨x, ir, rest, rfl⟩
theorem drop_min (l : List DReceivedShare) : ((l.map DReceivedShare.e).take (l.map DReceivedShare.e).length).drop (min 1 l.length) = (l.drop 1).map DReceivedShare.e := by
  rw [List.take_length]
  cases l with
  | nil => rfl
  | cons a l => simp
theorem c_PublishShare (s : DServer) (h : bigS s) : FnAt Try.prog 73 [.agg (DServer.e s)] [.agg (DDatabase.r (pubS s))] := by
  have hm := lenm DReceivedShare.e s.Received
  have hx := h.1
  cases hv : servOk s with
  | false =>
    have i0 := c_IsValidServer s h
    rw [hv] at i0
    have e : pubS s = ⟨[]⟩ := by unfold pubS; rw [hv]; rfl
    rw [e]
    refine fn_of Try.func73 rfl (by kernel_rfl) rfl ?_
    all_goals repeat' (first
      | (with_reducible rfl)
      | (conv => whnf
         first
           | refine ⟨_, i0, ?_⟩
           | exact trivial
           | (with_reducible rfl)
           | exact (rfl : (0 : Int) = ((0 : Nat) : Int))
           | exact w64_nat arith
           | refine bcase_T (by first | with_reducible rfl | decide) ?_
           | refine bcase_F (by first | with_reducible rfl | decide) ?_
           | refine bcase_dec (fun _ => ?_) (fun _ => ?_)
           | refine bcase_not ?_
           | refine bcase_intro (fun _ => ?_) (fun _ => ?_)
           | refine ⟨(by with_reducible rfl), ?_⟩
           | refine ⟨congrArg vi ?_, ?_⟩
           | refine ⟨congrArg vb ?_, ?_⟩
           | refine ⟨rfl, ?_⟩
           | refine ⟨(by kernel_rfl : drawOK _ = true), ?_⟩
           | refine Or.inl ?_
           | refine ⟨⟨congrArg (T.int _) ?_, rfl⟩, ?_⟩
           | refine ⟨⟨congrArg T.bool ?_, rfl⟩, ?_⟩
           | refine ⟨⟨rfl, Nat.le_of_ble_eq_true rfl⟩, ?_⟩
           | refine ⟨⟨rfl, rfl⟩, ?_⟩
           | refine ⟨⟨rfl, (by decide)⟩, ?_⟩
           | refine ⟨⟨rfl, ?_⟩, ?_⟩
           | refine ⟨Or.inr rfl, ?_⟩
           | refine ⟨Or.inl rfl, ?_⟩
           | refine ⟨⟨⟨rfl, rfl, rfl⟩, ?_⟩, ?_⟩
           | refine ⟨_, _, rfl, row_get _ _ arith, rfl, ?_⟩
           | refine ⟨Or.inr (by repeat (first | exact trivial | refine ⟨rfl, ?_⟩)), ?_⟩
           | refine ⟨(?_ : _ = ([] : List (List T))), ?_⟩
           | fail))
    all_goals (try rfl)
  | true =>
    have i0 := c_IsValidServer s h
    rw [hv] at i0
    by_cases b1 : s.Behavior = 1
    · have e : pubS s = sumD s.Rows (s.Received.drop 1) := by unfold pubS; rw [if_pos hv, if_pos b1]
      rw [e]
      have hmin : (if ((s.Received.map DReceivedShare.e).length : Int) < 1 then ((s.Received.map DReceivedShare.e).length : Int) else 1) = ((min 1 s.Received.length : Nat) : Int) := by rw [hm]; split <;> omega
      have i1 := c_sumOf s.Rows (s.Received.drop 1) (by rw [List.length_drop]; omega) (fun r hr => h.2 r (List.mem_of_mem_drop hr))
      refine fn_of Try.func73 rfl (by kernel_rfl) rfl ?_
      all_goals repeat' (first
        | (with_reducible rfl)
        | (conv => whnf
           first
             | refine ⟨_, i0, ?_⟩
             | refine bcase_T (by rw [b1]; rfl) ?_
             | refine bcase_F (by rw [b1]; rfl) ?_
             | refine ⟨min 1 s.Received.length, _, congrArg (fun z => some (vint .i64 z)) hmin, rfl, ⟨by rw [hm]; omega, Nat.le_refl _⟩, (fun r hr => by obtain ⟨x, _, rfl⟩ := List.mem_map.1 hr; rfl), ?_⟩
             | refine ⟨_, fn_args i1 (congrArg (fun r => [V.one (I s.Rows), V.one (.lst r)]) (drop_min s.Received)), ?_⟩
             | exact trivial
             | (with_reducible rfl)
             | exact (rfl : (0 : Int) = ((0 : Nat) : Int))
             | exact w64_nat arith
             | refine bcase_T (by first | with_reducible rfl | decide) ?_
             | refine bcase_F (by first | with_reducible rfl | decide) ?_
             | refine bcase_dec (fun _ => ?_) (fun _ => ?_)
             | refine bcase_not ?_
             | refine bcase_intro (fun _ => ?_) (fun _ => ?_)
             | refine ⟨(by with_reducible rfl), ?_⟩
             | refine ⟨congrArg vi ?_, ?_⟩
             | refine ⟨congrArg vb ?_, ?_⟩
             | refine ⟨rfl, ?_⟩
             | refine ⟨(by kernel_rfl : drawOK _ = true), ?_⟩
             | refine Or.inl ?_
             | refine ⟨⟨congrArg (T.int _) ?_, rfl⟩, ?_⟩
             | refine ⟨⟨congrArg T.bool ?_, rfl⟩, ?_⟩
             | refine ⟨⟨rfl, Nat.le_of_ble_eq_true rfl⟩, ?_⟩
             | refine ⟨⟨rfl, rfl⟩, ?_⟩
             | refine ⟨⟨rfl, (by decide)⟩, ?_⟩
             | refine ⟨⟨rfl, ?_⟩, ?_⟩
             | refine ⟨Or.inr rfl, ?_⟩
             | refine ⟨Or.inl rfl, ?_⟩
             | refine ⟨⟨⟨rfl, rfl, rfl⟩, ?_⟩, ?_⟩
             | refine ⟨_, _, rfl, row_get _ _ arith, rfl, ?_⟩
             | refine ⟨Or.inr (by repeat (first | exact trivial | refine ⟨rfl, ?_⟩)), ?_⟩
             | refine ⟨(?_ : _ = ([] : List (List T))), ?_⟩
             | fail))
      all_goals trace_state
    · by_cases b2 : s.Behavior = 2
      · have e : pubS s = ⟨flipR (sumD s.Rows s.Received).Rows⟩ := by unfold pubS; rw [if_pos hv, if_neg b1, if_pos b2]
        obtain ⟨x, ir, rest, hr⟩ := full_first (full_sum (servOk_rows hv) s.Received) (by have := inR_iff.1 (servOk_rows hv); omega)
        have i1 := c_sumOf s.Rows s.Received h.1 h.2
        have e1 : DDatabase.r (sumD s.Rows s.Received) = [.l 1 ([T.lst ([T.int .u8 (x.toNat : Int)] :: ir.map eU)] :: rest.map (eL eU))] := by unfold DDatabase.r; rw [hr]; rfl
        rw [e1] at i1
        have e2 : DDatabase.r (pubS s) = [.l 1 ([T.lst ([T.int .u8 (bits .xor .u8 (x.toNat : Int) 1)] :: ir.map eU)] :: rest.map (eL eU))] := by
          rw [e]; unfold DDatabase.r; rw [hr, show (1 : Int) = (((1 : UInt8).toNat : Nat) : Int) from rfl, u8_xor2]; rfl
        rw [e2]
        refine fn_of Try.func73 rfl (by kernel_rfl) rfl ?_
        all_goals repeat' (first
          | (with_reducible rfl)
          | (conv => whnf
             first
               | refine ⟨_, i0, ?_⟩
               | refine ⟨_, i1, ?_⟩
               | refine bcase_T (by rw [b2]; rfl) ?_
               | refine bcase_F (by rw [b2]; rfl) ?_
               | refine regAt_nest (b := 4) (t := 26) tys_ok rfl rfl rfl rfl ⟨_, rfl⟩ rfl rfl rfl rfl rfl rfl rfl rfl rfl rfl (by decide) (by decide) rfl ?_
               | exact trivial
               | (with_reducible rfl)
               | exact (rfl : (0 : Int) = ((0 : Nat) : Int))
               | exact w64_nat arith
               | refine bcase_T (by first | with_reducible rfl | decide) ?_
               | refine bcase_F (by first | with_reducible rfl | decide) ?_
               | refine bcase_dec (fun _ => ?_) (fun _ => ?_)
               | refine bcase_not ?_
               | refine bcase_intro (fun _ => ?_) (fun _ => ?_)
               | refine ⟨(by with_reducible rfl), ?_⟩
               | refine ⟨congrArg vi ?_, ?_⟩
               | refine ⟨congrArg vb ?_, ?_⟩
               | refine ⟨rfl, ?_⟩
               | refine ⟨(by kernel_rfl : drawOK _ = true), ?_⟩
               | refine Or.inl ?_
               | refine ⟨⟨congrArg (T.int _) ?_, rfl⟩, ?_⟩
               | refine ⟨⟨congrArg T.bool ?_, rfl⟩, ?_⟩
               | refine ⟨⟨rfl, Nat.le_of_ble_eq_true rfl⟩, ?_⟩
               | refine ⟨⟨rfl, rfl⟩, ?_⟩
               | refine ⟨⟨rfl, (by decide)⟩, ?_⟩
               | refine ⟨⟨rfl, ?_⟩, ?_⟩
               | refine ⟨Or.inr rfl, ?_⟩
               | refine ⟨Or.inl rfl, ?_⟩
               | refine ⟨⟨⟨rfl, rfl, rfl⟩, ?_⟩, ?_⟩
               | refine ⟨_, _, rfl, row_get _ _ arith, rfl, ?_⟩
               | refine ⟨Or.inr (by repeat (first | exact trivial | refine ⟨rfl, ?_⟩)), ?_⟩
               | refine ⟨(?_ : _ = ([] : List (List T))), ?_⟩
               | fail))
        all_goals trace_state
      · have e : pubS s = sumD s.Rows s.Received := by unfold pubS; rw [if_pos hv, if_neg b1, if_neg b2]
        rw [e]
        have i1 := c_sumOf s.Rows s.Received h.1 h.2
        refine fn_of Try.func73 rfl (by kernel_rfl) rfl ?_
        all_goals repeat' (first
          | (with_reducible rfl)
          | (conv => whnf
             first
               | refine ⟨_, i0, ?_⟩
               | refine ⟨_, i1, ?_⟩
               | refine bcase_F (by first | exact beq_eq_false_iff_ne.2 b1 | exact beq_eq_false_iff_ne.2 b2) ?_
               | exact trivial
               | (with_reducible rfl)
               | exact (rfl : (0 : Int) = ((0 : Nat) : Int))
               | exact w64_nat arith
               | refine bcase_T (by first | with_reducible rfl | decide) ?_
               | refine bcase_F (by first | with_reducible rfl | decide) ?_
               | refine bcase_dec (fun _ => ?_) (fun _ => ?_)
               | refine bcase_not ?_
               | refine bcase_intro (fun _ => ?_) (fun _ => ?_)
               | refine ⟨(by with_reducible rfl), ?_⟩
               | refine ⟨congrArg vi ?_, ?_⟩
               | refine ⟨congrArg vb ?_, ?_⟩
               | refine ⟨rfl, ?_⟩
               | refine ⟨(by kernel_rfl : drawOK _ = true), ?_⟩
               | refine Or.inl ?_
               | refine ⟨⟨congrArg (T.int _) ?_, rfl⟩, ?_⟩
               | refine ⟨⟨congrArg T.bool ?_, rfl⟩, ?_⟩
               | refine ⟨⟨rfl, Nat.le_of_ble_eq_true rfl⟩, ?_⟩
               | refine ⟨⟨rfl, rfl⟩, ?_⟩
               | refine ⟨⟨rfl, (by decide)⟩, ?_⟩
               | refine ⟨⟨rfl, ?_⟩, ?_⟩
               | refine ⟨Or.inr rfl, ?_⟩
               | refine ⟨Or.inl rfl, ?_⟩
               | refine ⟨⟨⟨rfl, rfl, rfl⟩, ?_⟩, ?_⟩
               | refine ⟨_, _, rfl, row_get _ _ arith, rfl, ?_⟩
               | refine ⟨Or.inr (by repeat (first | exact trivial | refine ⟨rfl, ?_⟩)), ?_⟩
               | refine ⟨(?_ : _ = ([] : List (List T))), ?_⟩
               | fail))
        all_goals trace_state
theorem c_sPublishShare (s : DServer) (h : bigS s) : FnAt Try.prog 71 [.agg (DServer.e s)] [.agg (DDatabase.r (pubS s))] := by
  have hx := h.1
  cases hv : servOk s with
  | false =>
    have i0 := c_sIsValidServer s h
    rw [hv] at i0
    have e : pubS s = ⟨[]⟩ := by unfold pubS; rw [hv]; rfl
    rw [e]
    refine fn_of Try.func71 rfl (by kernel_rfl) rfl ?_
    all_goals repeat' (first
      | (with_reducible rfl)
      | (conv => whnf
         first
           | refine ⟨_, i0, ?_⟩
           | exact trivial
           | (with_reducible rfl)
           | exact (rfl : (0 : Int) = ((0 : Nat) : Int))
           | exact w64_nat arith
           | refine bcase_T (by first | with_reducible rfl | decide) ?_
           | refine bcase_F (by first | with_reducible rfl | decide) ?_
           | refine bcase_dec (fun _ => ?_) (fun _ => ?_)
           | refine bcase_not ?_
           | refine bcase_intro (fun _ => ?_) (fun _ => ?_)
           | refine ⟨(by with_reducible rfl), ?_⟩
           | refine ⟨congrArg vi ?_, ?_⟩
           | refine ⟨congrArg vb ?_, ?_⟩
           | refine ⟨rfl, ?_⟩
           | refine ⟨(by kernel_rfl : drawOK _ = true), ?_⟩
           | refine Or.inl ?_
           | refine ⟨⟨congrArg (T.int _) ?_, rfl⟩, ?_⟩
           | refine ⟨⟨congrArg T.bool ?_, rfl⟩, ?_⟩
           | refine ⟨⟨rfl, Nat.le_of_ble_eq_true rfl⟩, ?_⟩
           | refine ⟨⟨rfl, rfl⟩, ?_⟩
           | refine ⟨⟨rfl, (by decide)⟩, ?_⟩
           | refine ⟨⟨rfl, ?_⟩, ?_⟩
           | refine ⟨Or.inr rfl, ?_⟩
           | refine ⟨Or.inl rfl, ?_⟩
           | refine ⟨⟨⟨rfl, rfl, rfl⟩, ?_⟩, ?_⟩
           | refine ⟨_, _, rfl, row_get _ _ arith, rfl, ?_⟩
           | refine ⟨Or.inr (by repeat (first | exact trivial | refine ⟨rfl, ?_⟩)), ?_⟩
           | refine ⟨(?_ : _ = ([] : List (List T))), ?_⟩
           | fail))
    all_goals (try rfl)
  | true =>
    have i0 := c_sIsValidServer s h
    rw [hv] at i0
    by_cases b1 : s.Behavior = 1
    · have e : pubS s = sumD s.Rows (s.Received.drop 1) := by unfold pubS; rw [if_pos hv, if_pos b1]
      rw [e]
      have i1 := c_l25Sum s 1 (by decide) h
      refine fn_of Try.func71 rfl (by kernel_rfl) rfl ?_
      all_goals repeat' (first
        | (with_reducible rfl)
        | (conv => whnf
           first
             | refine ⟨_, i0, ?_⟩
             | refine bcase_T (by rw [b1]; rfl) ?_
             | refine bcase_F (by rw [b1]; rfl) ?_
             | refine ⟨_, i1, ?_⟩
             | exact trivial
             | (with_reducible rfl)
             | exact (rfl : (0 : Int) = ((0 : Nat) : Int))
             | exact w64_nat arith
             | refine bcase_T (by first | with_reducible rfl | decide) ?_
             | refine bcase_F (by first | with_reducible rfl | decide) ?_
             | refine bcase_dec (fun _ => ?_) (fun _ => ?_)
             | refine bcase_not ?_
             | refine bcase_intro (fun _ => ?_) (fun _ => ?_)
             | refine ⟨(by with_reducible rfl), ?_⟩
             | refine ⟨congrArg vi ?_, ?_⟩
             | refine ⟨congrArg vb ?_, ?_⟩
             | refine ⟨rfl, ?_⟩
             | refine ⟨(by kernel_rfl : drawOK _ = true), ?_⟩
             | refine Or.inl ?_
             | refine ⟨⟨congrArg (T.int _) ?_, rfl⟩, ?_⟩
             | refine ⟨⟨congrArg T.bool ?_, rfl⟩, ?_⟩
             | refine ⟨⟨rfl, Nat.le_of_ble_eq_true rfl⟩, ?_⟩
             | refine ⟨⟨rfl, rfl⟩, ?_⟩
             | refine ⟨⟨rfl, (by decide)⟩, ?_⟩
             | refine ⟨⟨rfl, ?_⟩, ?_⟩
             | refine ⟨Or.inr rfl, ?_⟩
             | refine ⟨Or.inl rfl, ?_⟩
             | refine ⟨⟨⟨rfl, rfl, rfl⟩, ?_⟩, ?_⟩
             | refine ⟨_, _, rfl, row_get _ _ arith, rfl, ?_⟩
             | refine ⟨Or.inr (by repeat (first | exact trivial | refine ⟨rfl, ?_⟩)), ?_⟩
             | refine ⟨(?_ : _ = ([] : List (List T))), ?_⟩
             | fail))
      all_goals trace_state
    · by_cases b2 : s.Behavior = 2
      · have e : pubS s = ⟨flipR (sumD s.Rows s.Received).Rows⟩ := by unfold pubS; rw [if_pos hv, if_neg b1, if_pos b2]
        obtain ⟨x, ir, rest, hr⟩ := full_first (full_sum (servOk_rows hv) s.Received) (by have := inR_iff.1 (servOk_rows hv); omega)
        have i1 := c_l25Sum s 0 (by decide) h
        have e1 : DDatabase.r (sumD s.Rows s.Received) = [.l 1 ([T.lst ([T.int .u8 (x.toNat : Int)] :: ir.map eU)] :: rest.map (eL eU))] := by unfold DDatabase.r; rw [hr]; rfl
        rw [List.drop_zero, e1] at i1
        have e2 : DDatabase.r (pubS s) = [.l 1 ([T.lst ([T.int .u8 (bits .xor .u8 (x.toNat : Int) 1)] :: ir.map eU)] :: rest.map (eL eU))] := by
          rw [e]; unfold DDatabase.r; rw [hr, show (1 : Int) = (((1 : UInt8).toNat : Nat) : Int) from rfl, u8_xor2]; rfl
        rw [e2]
        refine fn_of Try.func71 rfl (by kernel_rfl) rfl ?_
        all_goals repeat' (first
          | (with_reducible rfl)
          | (conv => whnf
             first
               | refine ⟨_, i0, ?_⟩
               | refine ⟨_, i1, ?_⟩
               | refine bcase_T (by rw [b2]; rfl) ?_
               | refine bcase_F (by rw [b2]; rfl) ?_
               | refine regAt_nestD (b := 3) (t := 18) tys_ok (by kernel_rfl) rfl rfl rfl rfl ⟨_, rfl⟩ rfl rfl rfl rfl rfl rfl rfl rfl rfl rfl (by decide) (by decide) rfl (by kernel_rfl) (by kernel_rfl) (by kernel_rfl) (by kernel_rfl) (by kernel_rfl) (by kernel_rfl) (by kernel_rfl) (by kernel_rfl) (by kernel_rfl) (by kernel_rfl) (by kernel_rfl) (by kernel_rfl) ?_
               | exact trivial
               | (with_reducible rfl)
               | exact (rfl : (0 : Int) = ((0 : Nat) : Int))
               | exact w64_nat arith
               | refine bcase_T (by first | with_reducible rfl | decide) ?_
               | refine bcase_F (by first | with_reducible rfl | decide) ?_
               | refine bcase_dec (fun _ => ?_) (fun _ => ?_)
               | refine bcase_not ?_
               | refine bcase_intro (fun _ => ?_) (fun _ => ?_)
               | refine ⟨(by with_reducible rfl), ?_⟩
               | refine ⟨congrArg vi ?_, ?_⟩
               | refine ⟨congrArg vb ?_, ?_⟩
               | refine ⟨rfl, ?_⟩
               | refine ⟨(by kernel_rfl : drawOK _ = true), ?_⟩
               | refine Or.inl ?_
               | refine ⟨⟨congrArg (T.int _) ?_, rfl⟩, ?_⟩
               | refine ⟨⟨congrArg T.bool ?_, rfl⟩, ?_⟩
               | refine ⟨⟨rfl, Nat.le_of_ble_eq_true rfl⟩, ?_⟩
               | refine ⟨⟨rfl, rfl⟩, ?_⟩
               | refine ⟨⟨rfl, (by decide)⟩, ?_⟩
               | refine ⟨⟨rfl, ?_⟩, ?_⟩
               | refine ⟨Or.inr rfl, ?_⟩
               | refine ⟨Or.inl rfl, ?_⟩
               | refine ⟨⟨⟨rfl, rfl, rfl⟩, ?_⟩, ?_⟩
               | refine ⟨_, _, rfl, row_get _ _ arith, rfl, ?_⟩
               | refine ⟨Or.inr (by repeat (first | exact trivial | refine ⟨rfl, ?_⟩)), ?_⟩
               | refine ⟨(?_ : _ = ([] : List (List T))), ?_⟩
               | fail))
        all_goals trace_state
      · have e : pubS s = sumD s.Rows s.Received := by unfold pubS; rw [if_pos hv, if_neg b1, if_neg b2]
        rw [e]
        have i1 := c_l25Sum s 0 (by decide) h
        rw [List.drop_zero] at i1
        refine fn_of Try.func71 rfl (by kernel_rfl) rfl ?_
        all_goals repeat' (first
          | (with_reducible rfl)
          | (conv => whnf
             first
               | refine ⟨_, i0, ?_⟩
               | refine ⟨_, i1, ?_⟩
               | refine bcase_F (by first | exact beq_eq_false_iff_ne.2 b1 | exact beq_eq_false_iff_ne.2 b2) ?_
               | exact trivial
               | (with_reducible rfl)
               | exact (rfl : (0 : Int) = ((0 : Nat) : Int))
               | exact w64_nat arith
               | refine bcase_T (by first | with_reducible rfl | decide) ?_
               | refine bcase_F (by first | with_reducible rfl | decide) ?_
               | refine bcase_dec (fun _ => ?_) (fun _ => ?_)
               | refine bcase_not ?_
               | refine bcase_intro (fun _ => ?_) (fun _ => ?_)
               | refine ⟨(by with_reducible rfl), ?_⟩
               | refine ⟨congrArg vi ?_, ?_⟩
               | refine ⟨congrArg vb ?_, ?_⟩
               | refine ⟨rfl, ?_⟩
               | refine ⟨(by kernel_rfl : drawOK _ = true), ?_⟩
               | refine Or.inl ?_
               | refine ⟨⟨congrArg (T.int _) ?_, rfl⟩, ?_⟩
               | refine ⟨⟨congrArg T.bool ?_, rfl⟩, ?_⟩
               | refine ⟨⟨rfl, Nat.le_of_ble_eq_true rfl⟩, ?_⟩
               | refine ⟨⟨rfl, rfl⟩, ?_⟩
               | refine ⟨⟨rfl, (by decide)⟩, ?_⟩
               | refine ⟨⟨rfl, ?_⟩, ?_⟩
               | refine ⟨Or.inr rfl, ?_⟩
               | refine ⟨Or.inl rfl, ?_⟩
               | refine ⟨⟨⟨rfl, rfl, rfl⟩, ?_⟩, ?_⟩
               | refine ⟨_, _, rfl, row_get _ _ arith, rfl, ?_⟩
               | refine ⟨Or.inr (by repeat (first | exact trivial | refine ⟨rfl, ?_⟩)), ?_⟩
               | refine ⟨(?_ : _ = ([] : List (List T))), ?_⟩
               | fail))
        all_goals trace_state
theorem pubs_take (l : List DServer) {i : Nat} (h : i < l.length) : ((l.take (i + 1)).map pubS).map DDatabase.e = ((l.take i).map pubS).map DDatabase.e ++ [DDatabase.e (pubS l[i])] := by
  rw [map_take_succ pubS l h, List.map_append]
  rfl
theorem c_PublishAll (l : List DServer) (h : bigSs l) : FnAt Try.prog 21 [.one (L DServer.e l)] [.one (.l 1 ((l.map pubS).map DDatabase.e))] := by
  have hx := h.1
  have hm := lenm DServer.e l
  refine fn_of Try.func21 rfl (by kernel_rfl) rfl ?_
  all_goals repeat' (first
    | (with_reducible rfl)
    | (conv => whnf
       first
         | exact trivial
         | (with_reducible rfl)
         | exact (rfl : (0 : Int) = ((0 : Nat) : Int))
         | exact w64_nat arith
         | refine bcase_T (by first | with_reducible rfl | decide) ?_
         | refine bcase_F (by first | with_reducible rfl | decide) ?_
         | refine bcase_dec (fun _ => ?_) (fun _ => ?_)
         | refine bcase_not ?_
         | refine bcase_intro (fun _ => ?_) (fun _ => ?_)
         | refine ⟨(by with_reducible rfl), ?_⟩
         | refine ⟨congrArg vi ?_, ?_⟩
         | refine ⟨congrArg vb ?_, ?_⟩
         | refine ⟨rfl, ?_⟩
         | refine ⟨(by kernel_rfl : drawOK _ = true), ?_⟩
         | refine Or.inl ?_
         | refine ⟨⟨congrArg (T.int _) ?_, rfl⟩, ?_⟩
         | refine ⟨⟨congrArg T.bool ?_, rfl⟩, ?_⟩
         | refine ⟨⟨rfl, Nat.le_of_ble_eq_true rfl⟩, ?_⟩
         | refine ⟨⟨rfl, rfl⟩, ?_⟩
         | refine ⟨⟨rfl, (by decide)⟩, ?_⟩
         | refine ⟨⟨rfl, ?_⟩, ?_⟩
         | refine ⟨Or.inr rfl, ?_⟩
         | refine ⟨Or.inl rfl, ?_⟩
         | refine ⟨⟨⟨rfl, rfl, rfl⟩, ?_⟩, ?_⟩
         | refine ⟨_, _, rfl, row_get _ _ arith, rfl, ?_⟩
         | refine ⟨Or.inr (by repeat (first | exact trivial | refine ⟨rfl, ?_⟩)), ?_⟩
         | refine ⟨(?_ : _ = ([] : List (List T))), ?_⟩
         | fail))
  conv => whnf
  refine ⟨Nat, fun i => i ≤ l.length, fun i => ⟨[(3, .c (.ref 0)), (7, vl (l.map DServer.e)), (8, vi l.length), (9, vi i)], [(0, .row true true 1 (((l.take i).map pubS).map DDatabase.e))], 1⟩, fun i => l.length - i, 0, Nat.zero_le _, sub_at [(0, 3)] rfl rfl rfl ?_ ?_, fun i (hi : i ≤ l.length) => ?_⟩
  all_goals repeat' (first
    | (with_reducible rfl)
    | (conv => whnf
       first
         | exact trivial
         | (with_reducible rfl)
         | exact (rfl : (0 : Int) = ((0 : Nat) : Int))
         | exact w64_nat arith
         | refine bcase_T (by first | with_reducible rfl | decide) ?_
         | refine bcase_F (by first | with_reducible rfl | decide) ?_
         | refine bcase_dec (fun _ => ?_) (fun _ => ?_)
         | refine bcase_not ?_
         | refine bcase_intro (fun _ => ?_) (fun _ => ?_)
         | refine ⟨(by with_reducible rfl), ?_⟩
         | refine ⟨congrArg vi ?_, ?_⟩
         | refine ⟨congrArg vb ?_, ?_⟩
         | refine ⟨rfl, ?_⟩
         | refine ⟨(by kernel_rfl : drawOK _ = true), ?_⟩
         | refine Or.inl ?_
         | refine ⟨⟨congrArg (T.int _) ?_, rfl⟩, ?_⟩
         | refine ⟨⟨congrArg T.bool ?_, rfl⟩, ?_⟩
         | refine ⟨⟨rfl, Nat.le_of_ble_eq_true rfl⟩, ?_⟩
         | refine ⟨⟨rfl, rfl⟩, ?_⟩
         | refine ⟨⟨rfl, (by decide)⟩, ?_⟩
         | refine ⟨⟨rfl, ?_⟩, ?_⟩
         | refine ⟨Or.inr rfl, ?_⟩
         | refine ⟨Or.inl rfl, ?_⟩
         | refine ⟨⟨⟨rfl, rfl, rfl⟩, ?_⟩, ?_⟩
         | refine ⟨_, _, rfl, row_get _ _ arith, rfl, ?_⟩
         | refine ⟨Or.inr (by repeat (first | exact trivial | refine ⟨rfl, ?_⟩)), ?_⟩
         | refine ⟨(?_ : _ = ([] : List (List T))), ?_⟩
         | refine ⟨_, c_PublishShare (l[i]'(by omega)) (h.2 _ (List.getElem_mem _)), ?_⟩
         | refine ⟨i, _, rfl, row_get _ _ (by omega), rfl, ?_⟩
         | refine ⟨⟨bnd, bnd⟩, ?_⟩
         | refine ⟨i + 1, ⟨arith, arith⟩, sub_at [(0, 3)] rfl rfl rfl ?_ ?_⟩
         | fail))
  all_goals first
    | rfl
    | (rw [List.length_map]; done)
    | (rw [pubs_take l (by omega)]; rfl)
    | (rw [take_all _ (by omega)]; done)
    | trace_state
theorem c_sPublishAll (l : List DServer) (h : bigSs l) : FnAt Try.prog 19 [.one (L DServer.e l)] [.one (.l 1 ((l.map pubS).map DDatabase.e))] := by
  have hx := h.1
  have hm := lenm DServer.e l
  refine fn_of Try.func19 rfl (by kernel_rfl) rfl ?_
  all_goals repeat' (first
    | (with_reducible rfl)
    | (conv => whnf
       first
         | exact trivial
         | (with_reducible rfl)
         | exact (rfl : (0 : Int) = ((0 : Nat) : Int))
         | exact w64_nat arith
         | refine bcase_T (by first | with_reducible rfl | decide) ?_
         | refine bcase_F (by first | with_reducible rfl | decide) ?_
         | refine bcase_dec (fun _ => ?_) (fun _ => ?_)
         | refine bcase_not ?_
         | refine bcase_intro (fun _ => ?_) (fun _ => ?_)
         | refine ⟨(by with_reducible rfl), ?_⟩
         | refine ⟨congrArg vi ?_, ?_⟩
         | refine ⟨congrArg vb ?_, ?_⟩
         | refine ⟨rfl, ?_⟩
         | refine ⟨(by kernel_rfl : drawOK _ = true), ?_⟩
         | refine Or.inl ?_
         | refine ⟨⟨congrArg (T.int _) ?_, rfl⟩, ?_⟩
         | refine ⟨⟨congrArg T.bool ?_, rfl⟩, ?_⟩
         | refine ⟨⟨rfl, Nat.le_of_ble_eq_true rfl⟩, ?_⟩
         | refine ⟨⟨rfl, rfl⟩, ?_⟩
         | refine ⟨⟨rfl, (by decide)⟩, ?_⟩
         | refine ⟨⟨rfl, ?_⟩, ?_⟩
         | refine ⟨Or.inr rfl, ?_⟩
         | refine ⟨Or.inl rfl, ?_⟩
         | refine ⟨⟨⟨rfl, rfl, rfl⟩, ?_⟩, ?_⟩
         | refine ⟨_, _, rfl, row_get _ _ arith, rfl, ?_⟩
         | refine ⟨Or.inr (by repeat (first | exact trivial | refine ⟨rfl, ?_⟩)), ?_⟩
         | refine ⟨(?_ : _ = ([] : List (List T))), ?_⟩
         | fail))
  conv => whnf
  refine ⟨Nat, fun i => i ≤ l.length, fun i => ⟨[(0, vl (l.map DServer.e)), (3, .c (.ref 0)), (4, vi i)], [(0, .row true true 1 (((l.take i).map pubS).map DDatabase.e))], 1⟩, fun i => l.length - i, 0, Nat.zero_le _, sub_at [(0, 3)] rfl rfl rfl ?_ ?_, fun i (hi : i ≤ l.length) => ?_⟩
  all_goals repeat' (first
    | (with_reducible rfl)
    | (conv => whnf
       first
         | exact trivial
         | (with_reducible rfl)
         | exact (rfl : (0 : Int) = ((0 : Nat) : Int))
         | exact w64_nat arith
         | refine bcase_T (by first | with_reducible rfl | decide) ?_
         | refine bcase_F (by first | with_reducible rfl | decide) ?_
         | refine bcase_dec (fun _ => ?_) (fun _ => ?_)
         | refine bcase_not ?_
         | refine bcase_intro (fun _ => ?_) (fun _ => ?_)
         | refine ⟨(by with_reducible rfl), ?_⟩
         | refine ⟨congrArg vi ?_, ?_⟩
         | refine ⟨congrArg vb ?_, ?_⟩
         | refine ⟨rfl, ?_⟩
         | refine ⟨(by kernel_rfl : drawOK _ = true), ?_⟩
         | refine Or.inl ?_
         | refine ⟨⟨congrArg (T.int _) ?_, rfl⟩, ?_⟩
         | refine ⟨⟨congrArg T.bool ?_, rfl⟩, ?_⟩
         | refine ⟨⟨rfl, Nat.le_of_ble_eq_true rfl⟩, ?_⟩
         | refine ⟨⟨rfl, rfl⟩, ?_⟩
         | refine ⟨⟨rfl, (by decide)⟩, ?_⟩
         | refine ⟨⟨rfl, ?_⟩, ?_⟩
         | refine ⟨Or.inr rfl, ?_⟩
         | refine ⟨Or.inl rfl, ?_⟩
         | refine ⟨⟨⟨rfl, rfl, rfl⟩, ?_⟩, ?_⟩
         | refine ⟨_, _, rfl, row_get _ _ arith, rfl, ?_⟩
         | refine ⟨Or.inr (by repeat (first | exact trivial | refine ⟨rfl, ?_⟩)), ?_⟩
         | refine ⟨(?_ : _ = ([] : List (List T))), ?_⟩
         | refine ⟨_, c_sPublishShare (l[i]'(by omega)) (h.2 _ (List.getElem_mem _)), ?_⟩
         | refine ⟨i, _, rfl, row_get _ _ (by omega), rfl, ?_⟩
         | refine ⟨⟨bnd, bnd⟩, ?_⟩
         | refine ⟨i + 1, ⟨arith, arith⟩, sub_at [(0, 3)] rfl rfl rfl ?_ ?_⟩
         | fail))
  all_goals first
    | rfl
    | (rw [List.length_map]; done)
    | (rw [pubs_take l (by omega)]; rfl)
    | (rw [take_all _ (by omega)]; done)
    | trace_state
theorem szL_bd {α : Type} (f : α → Nat) (B : Nat) : ∀ (l : List α), (∀ x ∈ l, f x ≤ B) → szL f l ≤ l.length * (B + 1)
  | [], _ => by simp [szL]
  | x :: l, h => by
    have h1 := szL_bd f B l (fun y hy => h y (by simp [hy]))
    have h2 := h x (by simp)
    simp only [szL, List.length_cons, List.map_cons, List.sum_cons] at h1 ⊢
    rw [Nat.add_mul]
    omega
theorem full_small {n : Nat} {d : DDatabase} (h : full n d) (hn : n ≤ 64) : d.Rows.length ≤ 64 ∧ ∀ x ∈ d.Rows, x.length ≤ 24 :=
  ⟨by rw [h.1]; exact hn, fun x hx => Nat.le_of_eq (h.2 x hx)⟩
theorem pubS_small (s : DServer) : (pubS s).Rows.length ≤ 64 ∧ ∀ x ∈ (pubS s).Rows, x.length ≤ 24 := by
  unfold pubS
  split
  · next hv =>
    have hn := inR_iff.1 (servOk_rows hv)
    have f0 := full_small (full_sum (servOk_rows hv) s.Received) (by omega)
    split
    · exact full_small (full_sum (servOk_rows hv) _) (by omega)
    · split
      · exact ⟨by rw [flipR_len]; exact f0.1, flipR_mem f0.2⟩
      · exact f0
  · exact ⟨by simp, by simp⟩
theorem pubS_sz (s : DServer) : (pubS s).sz ≤ 1600 := by
  have h := pubS_small s
  have h1 := szL_bd List.length 24 (pubS s).Rows h.2
  have h2 : (pubS s).Rows.length * (24 + 1) ≤ 64 * (24 + 1) := Nat.mul_le_mul_right _ h.1
  show szL List.length (pubS s).Rows ≤ 1600
  omega
theorem pubs_sz (l : List DServer) : szL DDatabase.sz (l.map pubS) ≤ l.length * 1601 := by
  have := szL_bd DDatabase.sz 1600 (l.map pubS) (fun d hd => by obtain ⟨s, _, rfl⟩ := List.mem_map.1 hd; exact pubS_sz s)
  rw [List.length_map] at this
  exact this
end Go.Proofs.Ytcoipmjboiegoaa
