/-
  A drawn region whose last operation waits for all others and may change what is older; and one in which the rows of a row of the call's own move: they are seen as concrete values meanwhile.
  Conditions: the table of types fits the program ('TOk').
-/
import Derived.Test.YtpipfobdfcnghaaVmAj
namespace Go.Vm
open Go.RowKit

/-- What is older is as it was, but behind the last operation. -/
def frmX (O O' : List (Nat × Ob)) (n : Nat) : List Oper → Prop
  | [] => True
  | _ :: _ => frmO O O' n
theorem frmX_iff {O O' : List (Nat × Ob)} {n : Nat} {r : List Oper} (hne : r ≠ []) (h : frmX O O' n r) : ∀ id, id < n → get O' id = get O id := by
  cases r with
  | nil => exact absurd rfl hne
  | cons a r => exact frmO_iff h
def evOpsX (P : Program) (E : Nat → Option TI) (nt : Nat) (O0 : List (Nat × Ob)) (n0 : Nat) (ops : Array Oper) : List Oper → (St → Prop) → St → Prop
  | [], K, σ => K σ
  | o :: rest, K, σ => scase (dstOk nt o.dst && noG o) (match isLite o.op with
    | true => evOpF P E false (frO false ops o) o.op ⟨σ.env, O0, σ.next⟩ fun v τ => (τ.objs = O0 ∧ τ.next = σ.next) ∧ putK σ o.dst v (evOpsX P E nt O0 n0 ops rest K)
    | false => evOpF P E false (frO false ops o) o.op σ fun v σ' => frmX O0 σ'.objs n0 rest ∧ putK σ' o.dst v (evOpsX P E nt O0 n0 ops rest K)) False
/-- The last operation changes, and waits for all others. -/
def LastAll (ops : Array Oper) : Prop := 0 < ops.size → ∃ x, ops[ops.size - 1]? = some x ∧ clsO ops x = 2 ∧ ∀ j, j < ops.size - 1 → Reach ops (ops.size - 1) j
def lastAll (ops : Array Oper) : Bool := match ops[ops.size - 1]?, (masks ops.toList [])[ops.size - 1]? with
  | some x, some m => Nat.beq (clsO ops x) 2 && (List.range (ops.size - 1)).all fun j => m.testBit j
  | _, _ => false
theorem lastAll_iff {ops : Array Oper} (h : lastAll ops = true) : LastAll ops := by
  intro hs
  have hreach := masks_reach (ops := ops) ops.toList [] (fun i o hi => by simpa using hi) (fun i x j hi => by simp at hi)
  unfold lastAll at h
  split at h
  · rename_i x m hx hm
    rw [Bool.and_eq_true] at h
    refine ⟨x, hx, Nat.eq_of_beq_eq_true h.1, fun j hj => hreach _ m j hm ?_⟩
    exact List.all_eq_true.1 h.2 j (by simp; omega)
  · cases h

section
variable {P : Program} {E : Nat → Option TI} {nt : Nat} {w0 : Base} {ops : Array Oper} {s : Nat → St} {av : Nat → AV}
structure LiteX (P : Program) (nt : Nat) (ops : Array Oper) (s : Nat → St) (av : Nat → AV) : Prop where
  frm : ∀ i, i < ops.size → ∀ id, id < (s 0).next → get (s i).objs id = get (s 0).objs id
  lite : ∀ (i : Nat) o, ops[i]? = some o → isLite o.op = true → (s (i + 1)).next = (s i).next ∧ GoB P nt ops i o ⟨(s i).env, (s 0).objs, (s i).next⟩ (av i) ⟨(s i).env, (s 0).objs, (s i).next⟩
theorem draw_anyX (hF : Facts0 P nt ops s av) (hL : LiteX P nt ops s av) (hd : DrawOKL ops) (hla : LastAll ops) {Q : Exit → Act → World → Prop} (hQ : ∀ G a w, Rel w0 (s ops.size) G nt a w → Q .normal a w) :
    ∀ (fuel : Nat) (listed : Array Bool) (m : Nat) (G : Gh) (a : Act) (w : World), (List.range ops.size).countP (fun i => !listed.getD i false) ≤ fuel → Inv w0 nt ops s av listed m G a w → wpAny P .any ops Q fuel listed a w := by
  have fin : ∀ (listed : Array Bool) (m : Nat) (G : Gh) (a : Act) (w : World), Inv w0 nt ops s av listed m G a w → Region.ready .any ops listed = [] → Q .normal a w := by
    intro listed m G a w hI hr
    have all : ∀ i, i < ops.size → inS listed i := by
      intro i
      induction i using Nat.strongRecOn with
      | ind i ih =>
        intro hi
        by_cases h : inS listed i
        · exact h
        · exfalso
          have : i ∈ Region.ready .any ops listed := mem_ready.2 ⟨by
            unfold inS at h
            rw [Array.getD_eq_getD_getElem?] at h ⊢
            rw [Array.getElem?_eq_getElem (by rw [hI.size]; exact hi)] at h ⊢
            simpa using h, ops[i], by simp, fun e he hb => by
              have hlt := hd.back i ops[i] e (by simp) he hb
              exact ih e.on hlt (by omega)⟩
          rw [hr] at this
          cases this
    have hm : m = ops.size := by
      rcases Nat.lt_or_ge m ops.size with h | h
      · exact absurd (all m h) (hI.ph.new ops[m] (by simp)).2
      · have := hI.ph.le; omega
    have hm' := hm
    subst hm
    refine hQ G a w ⟨hI.mem, fun k u hu => ?_, fun k u hu => ?_, hI.tmps, fun j hj => ?_, wf_all hF (Nat.le_refl _), hI.defers⟩
    · rcases env_at hF (Nat.le_refl _) k u hu with ⟨i, x, h1, h2, h3, rfl⟩ | ⟨h1, h2⟩
      · exact hI.done i x k (all i h1) h2 h3
      · exact hI.kept k u h2 (fun i x hi hx => h1 i x (Array.getElem?_eq_some_iff.1 hx).1 hx)
    · rcases env_at hF (Nat.le_refl _) k u hu with ⟨i, x, h1, h2, h3, rfl⟩ | ⟨h1, h2⟩
      · exact .inl ((hF.fact i x h2).dst k h3)
      · exact hF.lt k u h2
    · rcases hI.laid j hj with h | ⟨i, h1, h2, h3⟩
      · exact Nat.lt_of_lt_of_le h (next_mono hF (Nat.zero_le _) (Nat.le_refl _))
      · have hi := inS_lt h1
        rw [hI.size] at hi
        exact Nat.lt_of_lt_of_le h3 (next_mono hF (by omega) (Nat.le_refl _))
  intro fuel
  induction fuel with
  | zero =>
    intro listed m G a w hc hI
    have hr : Region.ready .any ops listed = [] := by
      refine List.eq_nil_iff_forall_not_mem.2 (fun j hj => ?_)
      obtain ⟨h1, o, h2, _⟩ := mem_ready.1 hj
      have hjn : j < ops.size := (Array.getElem?_eq_some_iff.1 h2).1
      have h0 : (List.range ops.size).countP (fun i => !listed.getD i false) = 0 := by omega
      have := List.countP_eq_zero.1 h0 j (by simp [hjn])
      rw [Array.getD_eq_getD_getElem?] at h1 this
      rw [Array.getElem?_eq_getElem (by rw [hI.size]; exact hjn)] at h1 this
      simp at h1 this
      rw [h1] at this
      cases this
    exact ⟨hr, fin listed m G a w hI hr⟩
  | succ fuel ih =>
    intro listed m G a w hc hI
    refine ⟨fin listed m G a w hI, fun j hj => ?_⟩
    obtain ⟨hun, o, ho, _⟩ := mem_ready.1 hj
    have hjn : j < ops.size := (Array.getElem?_eq_some_iff.1 ho).1
    have hjl : j < listed.size := by rw [hI.size]; exact hjn
    have hnj : ¬ inS listed j := by
      unfold inS
      rw [Array.getD_eq_getD_getElem?] at hun ⊢
      rw [Array.getElem?_eq_getElem hjl] at hun ⊢
      simp at hun ⊢
      exact hun
    have hcnt : (List.range ops.size).countP (fun i => !(listed.setIfInBounds j true).getD i false) ≤ fuel := by
      have := countP_lt (p := fun i => !listed.getD i false) (q := fun i => !(listed.setIfInBounds j true).getD i false) (l := List.range ops.size) (x := j) (fun y _ hy => by
        by_cases h : inS listed y
        · have := inS_set_mono (i := j) h
          unfold inS at this
          rw [this] at hy
          cases hy
        · unfold inS at h
          cases hb : listed.getD y false with
          | true => exact absurd hb h
          | false => rfl) (by simp [hjn]) (by unfold inS at hnj; cases hb : listed.getD j false with | true => exact absurd hb hnj | false => rfl)
          (by have := getD_set_same hjl; unfold inS at this; simp [this])
      omega
    have hf := hF.fact j o ho
    have hsl := slots_atL hF hd hI ho hj
    have same : clsO ops o ≠ 2 → Phase ops (listed.setIfInBounds j true) m := fun h2 => ⟨hI.ph.le, fun i x hi hx hcx => inS_set_mono (hI.ph.old i x hi hx hcx), fun x hx => by
      obtain ⟨h3, h4⟩ := hI.ph.new x hx
      refine ⟨h3, fun h5 => ?_⟩
      rcases inS_set h5 with h5 | rfl
      · exact h4 h5
      · rw [ho] at hx; injection hx with hx; subst hx; exact h2 h3⟩
    rcases clsO_le ops o with h0 | h1 | h2
    · obtain ⟨_, _, hg⟩ := hf.a h0
      refine hg _ G w a _ Q hsl (fun u hu => ih _ m G _ w hcnt (inv_stepL hF hd hI ho hj (same (by omega)) hI.mem Pres.refl hu (fun x hx => .inl hx)))
    · cases hlo : isLite o.op with
      | true =>
        obtain ⟨hnx, hg⟩ := hL.lite j o ho hlo
        refine hg w0 (s m).objs G w a _ Q (fun id ob hob => ?_) hI.mem hsl (fun x hx1 hx2 => absurd hx1 (Nat.not_le_of_lt hx2)) (fun G' u w' hM' hp hu hA => ih _ m G' _ w' hcnt (inv_stepL hF hd hI ho hj (same (by omega)) hM' hp hu (fun x hx => (hA x hx).imp_right (fun h => absurd h.1 (Nat.not_le_of_lt h.2)))))
        have hm : m < ops.size := by
          rcases Nat.lt_or_ge m ops.size with h | h
          · exact h
          · exfalso
            obtain ⟨x, hx, hcx, hall⟩ := hla (by omega)
            have hin := hI.ph.old (ops.size - 1) x (by omega) hx hcx
            by_cases e : j = ops.size - 1
            · exact hnj (e ▸ hin)
            · exact hnj (reach_in hI.closed (hall j (by omega)) hin)
        rw [hL.frm m hm id (wf_all hF (Nat.zero_le _) id ob hob)]; exact hob
      | false =>
        have hjm : j < m := by
          rcases Nat.lt_or_ge j m with h | h
          · exact h
          · exfalso
            have hmn : m < ops.size := by omega
            obtain ⟨h3, h4⟩ := hI.ph.new ops[m] (by simp)
            have hne : m ≠ j := fun e => by
              subst e
              rw [Array.getElem?_eq_getElem hmn] at ho
              injection ho with ho
              rw [ho] at h3
              omega
            exact h4 (ready_reach hI.closed hj ((hd.pair j m ops[m] o (by omega) (by simp) ho).2 (conflictL_me (lite_cls h3) (by first | exact hlo | exact lite_cls h2) (.inl ⟨h3, by omega⟩))))
        have hext := objs_ext hF (i := j + 1) (j := m) (by omega) hI.ph.le (fun k x hk1 hk2 hx hcx => by
          have hk := hI.ph.old k x hk2 hx hcx
          exact hnj (reach_in hI.closed ((hd.pair k j o x (by omega) ho hx).2 (conflictL_me (by first | exact hlo | exact lite_cls h2) (lite_cls hcx) (.inr ⟨hcx, by omega⟩))) hk))
        refine hf.b h1 w0 (s m).objs G w a _ Q (fun id ob hob => ?_) hI.mem hsl (fun x hx1 hx2 hA => ?_) (fun G' u w' hM' hp hu hA => ih _ m G' _ w' hcnt (inv_stepL hF hd hI ho hj (same (by omega)) hM' hp hu (fun x hx => (hA x hx).imp_right (fun h => .inr ⟨j, getD_set_same hjl, h⟩))))
        · rw [hext id (hf.wf id ob hob)]; exact hob
        · rcases hI.laid x hA with h | ⟨i, h3, h4, h5⟩
          · have := next_mono hF (Nat.zero_le j) (Nat.le_of_lt hjn)
            omega
          · have hil := inS_lt h3
            rw [hI.size] at hil
            rcases Nat.lt_trichotomy i j with h | h | h
            · have := next_mono hF (show i + 1 ≤ j from h) (Nat.le_of_lt hjn)
              omega
            · subst h; exact hnj h3
            · have := next_mono hF (show j + 1 ≤ i from h) (Nat.le_of_lt hil)
              omega
    · have hjm : j = m := by
        rcases Nat.lt_trichotomy j m with h | h | h
        · exact absurd (hI.ph.old j o h ho h2) hnj
        · exact h
        · exfalso
          have hmn : m < ops.size := by omega
          obtain ⟨h3, h4⟩ := hI.ph.new ops[m] (by simp)
          exact h4 (ready_reach hI.closed hj ((hd.pair j m ops[m] o h (by simp) ho).2 (conflictL_me (lite_cls h3) (by first | exact hlo | exact lite_cls h2) (.inl ⟨h3, by omega⟩))))
      subst hjm
      have hlt : ∀ x, G.A x → x < (s j).next := by
        intro x hA
        rcases hI.laid x hA with h | ⟨i, h3, h4, h5⟩
        · exact Nat.lt_of_lt_of_le h (next_mono hF (Nat.zero_le j) (Nat.le_of_lt hjn))
        · have hil := inS_lt h3
          rw [hI.size] at hil
          rcases Nat.lt_trichotomy i j with h | h | h
          · exact Nat.lt_of_lt_of_le h5 (next_mono hF h (Nat.le_of_lt hjn))
          · subst h; exact absurd h3 hnj
          · exfalso
            have hx : ops[i]? = some ops[i] := by simp
            by_cases hci : clsO ops (ops[i]) = 0
            · have := ((hF.fact i _ hx).a hci).2.1
              omega
            · cases hli : isLite (ops[i]).op with
              | true => have := (hL.lite i _ hx hli).1; omega
              | false => exact hnj (reach_in hI.closed ((hd.pair i j o ops[i] h ho hx).2 (conflictL_me (lite_cls h2) hli (.inl ⟨h2, hci⟩))) h3)
      obtain ⟨m', hm1, hm2, hm3, hm4⟩ := phase_next (ops.size - (j + 1)) ops.size (j + 1) rfl (by omega) (fun i => match ops[i]? with | some x => Nat.beq (clsO ops x) 2 | none => false)
      have hno : ∀ (k : Nat) x, j + 1 ≤ k → k < m' → ops[k]? = some x → clsO ops x ≠ 2 := by
        intro k x h1 h2 h3 h4
        have := hm3 k h1 h2
        simp [h3, h4] at this
      have hext := objs_ext hF (i := j + 1) (j := m') hm1 hm2 hno
      have hph : Phase ops (listed.setIfInBounds j true) m' := by
        refine ⟨hm2, fun i x hi hx hcx => ?_, fun x hx => ?_⟩
        · rcases Nat.lt_trichotomy i j with h | h | h
          · exact inS_set_mono (hI.ph.old i x h hx hcx)
          · subst h; exact getD_set_same hjl
          · exact absurd hcx (hno i x h hi hx)
        · have hlt' : m' < ops.size := (Array.getElem?_eq_some_iff.1 hx).1
          have hc2 := hm4 hlt'
          simp only [hx] at hc2
          have hc2 := Nat.eq_of_beq_eq_true hc2
          refine ⟨hc2, fun h => ?_⟩
          rcases inS_set h with h | rfl
          · exact hnj (reach_in hI.closed ((hd.pair m' j o x (by omega) ho hx).2 (conflictL_me (lite_cls h2) (lite_cls hc2) (.inl ⟨h2, by omega⟩))) h)
          · omega
      refine hf.e h2 w0 G w a _ Q hI.mem hsl hlt (fun G' u w' hM' hp hu hA => ?_)
      obtain ⟨hM2, hp2⟩ := mem_later hM' hA hext
      refine ih _ m' G' _ w' hcnt (inv_stepL hF hd hI ho hj hph hM2 (hp.trans hp2) ((av j).rep_pres hp2 _ hu) (fun x hx => ?_))
      right
      by_cases h0 : x < (s 0).next
      · exact .inl h0
      · obtain ⟨i, h3, h4, h5⟩ := range_of (s := s) (j + 1) x (by omega) (hA x hx)
        refine .inr ⟨i, ?_, h4, h5⟩
        rcases Nat.lt_or_ge i j with h | h
        · have hx' : ops[i]? = some ops[i] := by simp
          cases hli : isLite (ops[i]).op with
          | true => have := (hL.lite i _ hx' hli).1; omega
          | false =>
            refine inS_set_mono (ready_reach hI.closed hj ((hd.pair j i ops[i] o h hx' ho).2 (conflictL_me hli (lite_cls h2) (.inr ⟨h2, fun hci => ?_⟩))))
            have := ((hF.fact i _ hx').a hci).2.1
            omega
        · have : i = j := by omega
          subst this
          exact getD_set_same hjl
theorem evOpsX_trace (hE : TOk P E) {K : St → Prop} {O0 : List (Nat × Ob)} {n0 : Nat} : ∀ (l : List Oper) (p : Nat) (σ : St), (∀ i o, l[i]? = some o → ops[p + i]? = some o) → σ.wf → (l ≠ [] → ∀ id, id < n0 → get σ.objs id = get O0 id) → n0 ≤ σ.next → (∀ id ob, get O0 id = some ob → id < n0) → evOpsX P E nt O0 n0 ops l K σ →
    ∃ (s : Nat → St) (av : Nat → AV), s p = σ ∧ (∀ i o, l[i]? = some o → Fact P nt ops (p + i) o (s (p + i)) (av (p + i)) (s (p + i + 1))) ∧ K (s (p + l.length)) ∧
      (∀ i o, l[i]? = some o → (i + 1 < l.length → ∀ id, id < n0 → get (s (p + i + 1)).objs id = get O0 id) ∧ (isLite o.op = true → (s (p + i + 1)).next = (s (p + i)).next ∧ GoB P nt ops (p + i) o ⟨(s (p + i)).env, O0, (s (p + i)).next⟩ (av (p + i)) ⟨(s (p + i)).env, O0, (s (p + i)).next⟩))
  | [], p, σ, _, _, _, _, _, h => ⟨fun _ => σ, fun _ => .junk, rfl, by simp, h, by simp⟩
  | o :: rest, p, σ, hl, hw, hfr, hn0, hO, h => by
    have hi : ops[p]? = some o := by simpa using hl 0 o (by simp)
    simp only [evOpsX, putK_eq] at h
    rcases scase_out h with ⟨hd, h⟩ | ⟨_, h⟩
    case inr => exact h.elim
    rw [Bool.and_eq_true] at hd
    obtain ⟨hd, hgd⟩ := hd
    have hg : o.guard = none := by unfold noG at hgd; split at hgd <;> simp_all
    have next : ∀ {v : AV} {σ' : St}, Fact P nt ops p o σ v σ' → (rest ≠ [] → ∀ id, id < n0 → get σ'.objs id = get O0 id) → (isLite o.op = true → σ'.next = σ.next ∧ GoB P nt ops p o ⟨σ.env, O0, σ.next⟩ v ⟨σ.env, O0, σ.next⟩) → evOpsX P E nt O0 n0 ops rest K σ' → ∃ (s : Nat → St) (av : Nat → AV), s p = σ ∧ (∀ i q, (o :: rest)[i]? = some q → Fact P nt ops (p + i) q (s (p + i)) (av (p + i)) (s (p + i + 1))) ∧ K (s (p + (o :: rest).length)) ∧
        (∀ i q, (o :: rest)[i]? = some q → (i + 1 < (o :: rest).length → ∀ id, id < n0 → get (s (p + i + 1)).objs id = get O0 id) ∧ (isLite q.op = true → (s (p + i + 1)).next = (s (p + i)).next ∧ GoB P nt ops (p + i) q ⟨(s (p + i)).env, O0, (s (p + i)).next⟩ (av (p + i)) ⟨(s (p + i)).env, O0, (s (p + i)).next⟩)) := by
      intro v σ' hf hfr' hlt h
      obtain ⟨s, av, h1, h2, h3, h4⟩ := evOpsX_trace hE rest (p + 1) σ' (fun i q hq => by
        have := hl (i + 1) q (by simpa using hq)
        rw [show p + 1 + i = p + (i + 1) by omega]; exact this) hf.wf hfr' (Nat.le_trans hn0 hf.next) hO h
      refine ⟨fun i => if i = p then σ else s i, fun i => if i = p then v else av i, by simp, fun i q hq => ?_, ?_, fun i q hq => ?_⟩
      · cases i with
        | zero =>
          simp at hq
          subst hq
          simpa [h1] using hf
        | succ i =>
          have := h2 i q (by simpa using hq)
          rw [show p + 1 + i = p + (i + 1) by omega] at this
          have e1 : p + (i + 1) ≠ p := by omega
          have e2 : p + (i + 1) + 1 ≠ p := by omega
          simp only [e1, e2, if_false]
          exact this
      · have e1 : p + (rest.length + 1) ≠ p := by omega
        simp only [List.length_cons, e1, if_false]
        rw [show p + (rest.length + 1) = p + 1 + rest.length by omega]
        exact h3
      · cases i with
        | zero =>
          simp at hq
          subst hq
          have e2 : p + 1 ≠ p := by omega
          simp only [Nat.add_zero, e2, if_false, if_true, h1]
          exact ⟨fun hl1 => hfr' (by rintro rfl; simp at hl1), hlt⟩
        | succ i =>
          have := h4 i q (by simpa using hq)
          rw [show p + 1 + i = p + (i + 1) by omega] at this
          have e1 : p + (i + 1) ≠ p := by omega
          have e2 : p + (i + 1) + 1 ≠ p := by omega
          simp only [e1, e2, if_false]
          exact ⟨fun hl1 => this.1 (by simp at hl1; omega), this.2⟩
    split at h
    · rename_i hlo
      have hwτ : St.wf ⟨σ.env, O0, σ.next⟩ := fun id x hx => Nat.lt_of_lt_of_le (hO id x hx) hn0
      have hc1 : clsO ops o = 1 := lite_clsO hlo
      obtain ⟨v, τ, ⟨⟨ho1, ho2⟩, hk⟩, hf⟩ := fact_run (nt := nt) (σ := ⟨σ.env, O0, σ.next⟩) (τ := ⟨σ.env, O0, σ.next⟩) hE hi hwτ hd (fun _ _ h => h) rfl rfl (fun O G w a _ => by simp [Region.wanted, hg]) h
      have hgb : GoB P nt ops p o ⟨σ.env, O0, σ.next⟩ v ⟨σ.env, O0, σ.next⟩ := by
        have h5 := hf.b hc1
        obtain ⟨q1, q2, _⟩ := put_st τ o.dst v
        unfold GoB at h5 ⊢
        rw [q1, q2, ho1, ho2] at h5
        exact h5
      obtain ⟨p1, p2, p3⟩ := put_st σ o.dst v
      refine next (v := v) (σ' := σ.put o.dst v) ⟨hi, hf.dst, by rw [p2]; exact Nat.le_refl _, p3 hw, put_env (fun _ _ h => h) rfl, fun _ id _ => by rw [p1], fun h0 => by omega, fun _ => ?_, fun h0 => by omega⟩ (fun _ => by rw [p1]; exact hfr (by simp)) (fun _ => ⟨p2, hgb⟩) hk
      intro w0 O G w a Kc Q hsub hM hs hfr2 hK
      rw [p1] at hsub
      rw [p2] at hfr2 hK
      exact hgb w0 O G w a Kc Q (fun id ob hob => hsub id ob (by rw [hfr (by simp) id (hO id ob hob)]; exact hob)) hM hs hfr2 hK
    · rename_i hlo
      obtain ⟨v, σ', ⟨hfo, hk⟩, hf⟩ := fact_run (nt := nt) (τ := σ) hE hi hw hd (fun _ _ h => h) rfl rfl (fun O G w a _ => by simp [Region.wanted, hg]) h
      obtain ⟨p1, _, _⟩ := put_st σ' o.dst v
      exact next hf (fun hne => by rw [p1]; exact frmX_iff hne hfo) (fun h0 => by rw [hlo] at h0; cases h0) hk

/-- THE DRAWN REGION. -/
theorem draw_wpAnyX (hE : TOk P E) (nt : Nat) (w0 : Base) (ops : Array Oper) (K : St → Prop) (σ : St) (G : Gh) (a : Act) (w : World) (hok : drawOKL ops = true) (hla : lastAll ops = true)
    (h : evOpsX P E nt σ.objs σ.next ops ops.toList K σ) (hR : Rel w0 σ G nt a w) : wpAny P .any ops (Post w0 nt fun e σ' => e = .normal ∧ K σ') ops.size (Array.replicate ops.size false) a { w with drawn := w.drawn + 1 } := by
  obtain ⟨s, av, h1, h2, h3, h4⟩ := evOpsX_trace hE ops.toList 0 σ (fun i o hi => by simpa using hi) hR.wf (fun _ _ _ => rfl) (Nat.le_refl _) hR.wf h
  have hF : Facts0 P nt ops s av := ⟨fun i o ho => by have := h2 i o (by simpa using ho); simpa using this, by rw [h1]; exact hR.wf, by rw [h1]; exact hR.lt⟩
  have hL : LiteX P nt ops s av := ⟨fun i hi id hid => by
      rw [h1] at hid ⊢
      cases i with
      | zero => rw [h1]
      | succ i => have := (h4 i ops[i] (by simp)).1 (by simpa using hi) id hid; simpa using this, fun i o ho hl => by
      have := (h4 i o (by simpa using ho)).2 hl
      rw [h1]; simpa using this⟩
  have hd := drawOKL_spec hok
  simp only [Array.length_toList, Nat.zero_add] at h3
  have no : ∀ i, ¬ inS (Array.replicate ops.size false) i := fun i h => by
    unfold inS at h
    rw [Array.getD_eq_getD_getElem?, Array.getElem?_replicate] at h
    split at h <;> simp at h
  obtain ⟨m, _, hm2, hm3, hm4⟩ := phase_next (ops.size - 0) ops.size 0 rfl (by omega) (fun i => match ops[i]? with | some x => Nat.beq (clsO ops x) 2 | none => false)
  have hno : ∀ (k : Nat) x, 0 ≤ k → k < m → ops[k]? = some x → clsO ops x ≠ 2 := by
    intro k x h1 h2 h3 h4
    have := hm3 k h1 h2
    simp [h3, h4] at this
  have hM0 : Mem w0 σ.objs G { w with drawn := w.drawn + 1 } ∧ Pres σ.objs G w σ.objs G { w with drawn := w.drawn + 1 } :=
    hR.mem.step (fun id => Lv σ.objs G id) (fun _ => False) (fun id h => ⟨h, rfl⟩) ⟨rfl, rfl⟩ (fun id h => ⟨h, rfl, rfl, rfl⟩) (fun id h => .inl h) rfl rfl rfl (Nat.le_refl _) (fun b _ _ => rfl)
      (fun _ h => h.elim) (fun _ _ h => h.elim) (fun _ h => h.elim) (fun _ h => h.elim) (fun _ _ h => h.elim)
  have hlt : ∀ j, G.A j → j < (s 0).next := fun j hj => by rw [h1]; exact hR.fresh j hj
  obtain ⟨hM1, hp1⟩ := mem_later hM0.1 hR.fresh (by
    have := objs_ext hF (Nat.zero_le m) hm2 hno
    rw [h1] at this
    exact this)
  have hp := hM0.2.trans hp1
  refine draw_anyX (w0 := w0) hF hL hd (lastAll_iff hla) (fun G' a' w' hR' => ⟨.normal, s ops.size, G', rfl, ⟨rfl, h3⟩, hR'⟩) ops.size _ m G a _ ?_ ⟨by simp, fun i o e hi => absurd hi (no i), ⟨hm2, fun i o hi ho hc => absurd hc (hno i o (Nat.zero_le _) hi ho), fun o ho => ⟨?_, no m⟩⟩, hM1, fun j hj => .inl (hlt j hj), fun i o k hi => absurd hi (no i), fun k u hu _ => ?_, hR.size, hR.defers⟩
  · exact Nat.le_trans List.countP_le_length (by simp)
  · have := hm4 (Array.getElem?_eq_some_iff.1 ho).1
    simp only [ho] at this
    exact Nat.eq_of_beq_eq_true this
  · rw [h1] at hu
    exact u.rep_pres hp _ (hR.env k u hu)

/-- A drawn region whose last operation waits for all others. -/
theorem regAt_last (hE : TOk P E) (hm : P.follows .mixedOrders = true) {id : Nat} {K : St → Prop} {σ : St} (hd : drawOKL ops = true) (hla : lastAll ops = true) (h : evOpsX P E nt σ.objs σ.next ops ops.toList K σ) : RegAt P nt (.region id ops true) K σ := by
  intro w0 G a w hR
  refine wp_mono (Q := Post w0 nt fun e σ' => e = .normal ∧ K σ') (wp_region_any hm (draw_wpAnyX hE nt w0 ops K σ G a w hd hla h hR)) ?_
  rintro e a' w' ⟨ex, σ', G', rfl, ⟨rfl, hk⟩, hR'⟩
  exact ⟨rfl, σ', G', hk, hR'⟩
end

/-! ### Rows whose cells are known as values -/
def raws (css : List (List Value)) : List (List T) := css.map fun cs => cs.map T.raw
theorem raws_scal (css : List (List Value)) : ∀ r ∈ raws css, ∀ x ∈ r, isScal x = true := by
  intro r hr x hx
  obtain ⟨cs, _, rfl⟩ := List.mem_map.1 hr
  obtain ⟨u, _, rfl⟩ := List.mem_map.1 hx
  rfl
theorem raws_length (css : List (List Value)) : (raws css).length = css.length := by simp [raws]
theorem raws_take (css : List (List Value)) (k : Nat) : (raws css).take k = raws (css.take k) := by simp [raws, List.map_take]
theorem raws_drop (css : List (List Value)) (k : Nat) : (raws css).drop k = raws (css.drop k) := by simp [raws, List.map_drop]
theorem raw_cells {w : World} : ∀ {cs : List Value}, (∀ u ∈ cs, u.oneCell' = true ∧ u.cells = #[u]) → repCells w (cs.map T.raw) cs []
  | [], _ => by simp [repCells]
  | u :: cs, h => by
    simp only [List.map_cons, repCells]
    exact ⟨u, cs, [], [], rfl, rfl, by first | exact ⟨⟨rfl, h u (by simp)⟩, rfl⟩ | (simp only [T.rep]; exact ⟨⟨trivial, h u (by simp)⟩, trivial⟩), raw_cells (fun u hu => h u (by simp [hu]))⟩
theorem raw_rows {w : World} : ∀ {css : List (List Value)}, (∀ cs ∈ css, ∀ u ∈ cs, u.oneCell' = true ∧ u.cells = #[u]) → repRows w (raws css) css []
  | [], _ => by simp [raws, repRows]
  | cs :: css, h => by
    simp only [raws, List.map_cons, repRows]
    exact ⟨cs, css, [], [], rfl, rfl, raw_cells (h cs (by simp)), raw_rows (fun c hc => h c (by simp [hc]))⟩
theorem raw_cells_eq {w : World} : ∀ {cs vs : List Value} {F : List Nat}, repCells w (cs.map T.raw) vs F → vs = cs ∧ F = []
  | [], vs, F, h => by simpa [repCells] using h
  | u :: cs, vs, F, h => by
    simp only [List.map_cons, repCells] at h
    obtain ⟨v, vs', F1, F2, rfl, rfl, h3, h4⟩ := h
    simp only [T.rep] at h3
    obtain ⟨⟨rfl, _⟩, rfl⟩ := h3
    obtain ⟨rfl, rfl⟩ := raw_cells_eq h4
    exact ⟨rfl, rfl⟩
theorem raw_rows_eq {w : World} : ∀ {css vss : List (List Value)} {F : List Nat}, repRows w (raws css) vss F → vss = css ∧ F = []
  | [], vs, F, h => by simpa [raws, repRows] using h
  | cs :: css, vs, F, h => by
    simp only [raws, List.map_cons, repRows] at h
    obtain ⟨v, vs', F1, F2, rfl, rfl, h3, h4⟩ := h
    obtain ⟨rfl, rfl⟩ := raw_cells_eq h3
    obtain ⟨rfl, rfl⟩ := raw_rows_eq h4
    exact ⟨rfl, rfl⟩
theorem cells_ones {w : World} : ∀ {xs : List T} {vs : List Value} {F : List Nat}, repCells w xs vs F → ∀ v ∈ vs, v.oneCell' = true ∧ v.cells = #[v]
  | [], vs, F, h, v, hv => by simp only [repCells] at h; simp [h.1] at hv
  | x :: xs, _, F, h, v, hv => by
    simp only [repCells] at h
    obtain ⟨u, vs', F1, F2, h1, h4, h2, h3⟩ := h
    subst h1
    rcases List.mem_cons.1 hv with rfl | hv
    · exact T.rep_one h2
    · exact cells_ones h3 v hv
theorem rows_ones {w : World} : ∀ {xs : List (List T)} {vs : List (List Value)} {F : List Nat}, repRows w xs vs F → ∀ cs ∈ vs, ∀ v ∈ cs, v.oneCell' = true ∧ v.cells = #[v]
  | [], vs, F, h, cs, hv => by simp only [repRows] at h; simp [h.1] at hv
  | x :: xs, _, F, h, cs, hv => by
    simp only [repRows] at h
    obtain ⟨u, vs', F1, F2, h1, h4, h2, h3⟩ := h
    subst h1
    rcases List.mem_cons.1 hv with rfl | hv
    · exact cells_ones h2
    · exact rows_ones h3 cs hv
theorem rows_split {w : World} : ∀ {xs ys : List (List T)} {vs : List (List Value)} {F : List Nat}, repRows w (xs ++ ys) vs F → ∃ v1 v2 F1 F2, vs = v1 ++ v2 ∧ F = F1 ++ F2 ∧ repRows w xs v1 F1 ∧ repRows w ys v2 F2
  | [], ys, vs, F, h => ⟨[], vs, [], F, rfl, rfl, by simp [repRows], by simpa using h⟩
  | x :: xs, ys, vs, F, h => by
    simp only [List.cons_append, repRows] at h
    obtain ⟨v, vs', F1, F2, rfl, rfl, h3, h4⟩ := h
    obtain ⟨v1, v2, F3, F4, rfl, rfl, h5, h6⟩ := rows_split h4
    exact ⟨v :: v1, v2, F1 ++ F3, F4, rfl, by simp, by simp only [repRows]; exact ⟨v, v1, F1, F3, rfl, rfl, h3, h5⟩, h6⟩

/-- The ghost in which one object owns other blocks. -/
def Gh.own (G : Gh) (n : Nat) (F : List Nat) : Gh where
  A := G.A
  φ := G.φ
  Φ := fun j => if j = n then F else G.Φ j
  h := G.h
  b := G.b
  pin := G.pin

/-- Another reading of one object, with other blocks of its own, the same ones to be written: what reads on. -/
theorem own_pres {O : List (Nat × Ob)} {G : Gh} {w : World} {n : Nat} {o o' : Ob} {F : List Nat} (hg : get O n = some o) : Pres O G w (Vm.put O n o') (G.own n F) w ∧ ∀ j, Lv (Vm.put O n o') (G.own n F) j ↔ Lv O G j := by
  have hlv : ∀ j, Lv (Vm.put O n o') (G.own n F) j ↔ Lv O G j := by
    intro j
    unfold Lv
    by_cases e : j = n
    · subst e
      rw [get_put_same, hg]
      simp [Gh.own]
    · rw [get_put_other _ _ _ _ e]; exact Iff.rfl
  exact ⟨⟨fun _ h => ⟨h, rfl⟩, fun id hl b hb => .inl ⟨id, (hlv id).1 hl, hb⟩, fun _ _ _ => rfl, Nat.le_refl _, rfl, rfl⟩, hlv⟩

open Classical in
/-- A region in which the rows of a row of the call's own move into another row. 'bid': a box that a slot points to, with the row in it. -/
theorem regAt_raw {P : Program} {nt : Nat} {c : Code} {K : St → Prop} {σ : St} (j bid i id sz : Nat) (app : Bool) (cs : List C) (rows : List (List T)) (k : Nat) (hj : get σ.env j = some (.ptr bid 0)) (hb : get σ.objs bid = some (.box cs))
    (hi : cs[i]? = some (.ref id)) (hg : get σ.objs id = some (.row true app sz rows))
    (h : ∀ css : List (List Value), css.length = rows.length → (∀ cs ∈ css, cs.length = sz) →
      RegAt P nt c (fun σ' => ∃ n app' M R, get σ'.objs n = some (.row true app' sz (raws (css.take k) ++ M ++ raws (css.drop k))) ∧ rows.take k ++ M ++ rows.drop k = R ∧
        K ⟨σ'.env, Vm.put σ'.objs n (.row true app' sz R), σ'.next⟩) ⟨σ.env, Vm.put σ.objs id (.row true app sz (raws css)), σ.next⟩) : RegAt P nt c K σ := by
  intro w0 G a w hR
  have hM := hR.mem
  have hAb : G.A bid := by
    have := hR.env j _ hj
    simp only [AV.rep] at this
    exact this.1
  have hAid : G.A id := by
    obtain ⟨g, vs, e, _, _, h3, _⟩ := hM.obs bid _ hAb hb
    obtain ⟨v, _, h5⟩ := repCs_get h3 hi
    exact h5.1
  have hlvid : Lv σ.objs G id := ⟨hAid, _, hg⟩
  obtain ⟨css, F', r1, r2, r3, r4⟩ := hM.obs id _ hAid hg
  simp only [if_true] at r4
  have hlen := repRows_length r1
  have hnd := hM.nodup id hlvid
  rw [r4] at hnd
  obtain ⟨p1, l1⟩ := own_pres (G := G) (w := w) (o' := .row true app sz (raws css)) (F := G.h id) hg
  -- the world in which the region runs: what the moving rows own is not to be written
  let M' : List Nat := (σ.objs.map Prod.fst).flatMap fun j => if Lv σ.objs G j then (G.own id (G.h id)).Φ j else []
  have hM' : ∀ b, b ∈ M' ↔ ∃ j, Lv σ.objs G j ∧ b ∈ (G.own id (G.h id)).Φ j := by
    intro b
    simp only [M', List.mem_flatMap]
    constructor
    · rintro ⟨j, _, hb⟩
      split at hb
      · exact ⟨j, by assumption, hb⟩
      · simp at hb
    · rintro ⟨j, hl, hb⟩
      have ⟨_, o, ho⟩ := hl
      exact ⟨j, List.mem_map.2 ⟨_, get_mem ho, rfl⟩, by rw [if_pos hl]; exact hb⟩
  have sub : ∀ j, Lv σ.objs G j → ∀ b ∈ (G.own id (G.h id)).Φ j, b ∈ G.Φ j := by
    intro j hl b hb
    by_cases e : j = id
    · subst e
      simp only [Gh.own, if_pos] at hb
      exact hM.hds j hl b hb
    · simpa only [Gh.own, if_neg e] using hb
  have hFid : ∀ b ∈ F', b ∈ G.Φ id := fun b hb => by rw [r4]; simp [hb]
  have hF'M : ∀ b ∈ F', b ∉ M' := by
    intro b hb hm
    obtain ⟨j, hl, hbj⟩ := (hM' b).1 hm
    by_cases e : j = id
    · subst e
      simp only [Gh.own, if_pos] at hbj
      exact (List.nodup_append.1 hnd).2.2 b hbj b hb rfl
    · simp only [Gh.own, if_neg e] at hbj
      exact hM.disj j id hl hlvid e b hbj (hFid b hb)
  have hlt : ∀ j, Lv σ.objs G j → ∀ b ∈ G.Φ j, b < w.heap.size := fun j hl b hb => by
    obtain ⟨_, arr, e, h⟩ := hM.lo j hl b hb
    exact (Array.getElem?_eq_some_iff.1 h).1
  have hR1 : Rel ⟨w, M', w0.b, w0.pin⟩ ⟨σ.env, Vm.put σ.objs id (.row true app sz (raws css)), σ.next⟩ (G.own id (G.h id)) nt a w := by
    refine ⟨⟨⟨rfl, rfl, rfl, Nat.le_refl _, fun _ _ _ => rfl⟩, fun b hb => Nat.lt_of_lt_of_le (hM.base b hb) hM.below.size, hM.fix, fun j o ha ho => ?_, fun j hl => ?_, fun j j' hl hl' hne b hb hb' => ?_, fun j hl b hb => ?_, fun j hl b hb => ?_⟩, fun k v hk => v.rep_pres p1 _ (hR.env k v hk), hR.lt, hR.size, hR.fresh, ?_, hR.defers⟩
    · by_cases e : j = id
      · subst e
        rw [get_put_same] at ho
        injection ho with ho
        subst ho
        refine ⟨css, [], raw_rows (rows_ones r1), r2, ?_, by simp [Gh.own]⟩
        rw [raws_length, hlen]
        cases app with
        | true => simp only [if_true] at r3 ⊢; exact r3
        | false =>
          simp only [Bool.false_eq_true, if_false] at r3 ⊢
          refine ⟨r3.1, r3.2.imp (fun h => h) (fun h => ⟨?_, h.2⟩)⟩
          have : css = [] := List.eq_nil_of_length_eq_zero (by rw [hlen, h.1]; rfl)
          rw [this]; rfl
      · have ho' := ho
        simp only [get_put_other _ _ _ _ e] at ho'
        exact Ob.rep_pres p1 (id := j) rfl (by simp only [Gh.own, if_neg e]) rfl (hM.hds j ⟨ha, _, ho'⟩) (fun _ _ => rfl) o (hM.obs j o ha ho')
    · by_cases e : j = id
      · subst e
        simp only [Gh.own, if_pos]
        exact (List.nodup_append.1 hnd).1
      · simp only [Gh.own, if_neg e]
        exact hM.nodup j ((l1 j).1 hl)
    · exact hM.disj j j' ((l1 j).1 hl) ((l1 j').1 hl') hne b (sub j ((l1 j).1 hl) b hb) (sub j' ((l1 j').1 hl') b hb')
    · have hl0 := (l1 j).1 hl
      exact ⟨⟨.inr ((hM' b).2 ⟨j, hl0, hb⟩), (hM.lo j hl0 b (sub j hl0 b hb)).1.2⟩, (hM.lo j hl0 b (sub j hl0 b hb)).2⟩
    · have hl0 := (l1 j).1 hl
      by_cases e : j = id
      · subst e
        simp only [Gh.own, if_pos]
        exact hb
      · simp only [Gh.own, if_neg e]
        exact hM.hds j hl0 b hb
    · exact wf_put hR.wf (hR.wf id _ hg)
  refine wp_mono (h css hlen r2 _ _ _ _ hR1) ?_
  rintro e a' w' ⟨he, σ', G', ⟨n, app', M, R, hn, rfl, hK⟩, hR'⟩
  have hm := hR'.mem
  refine ⟨he, ⟨σ'.env, Vm.put σ'.objs n (.row true app' sz (rows.take k ++ M ++ rows.drop k)), σ'.next⟩, ?_⟩
  have hsame : ∀ b ∈ F', w'.heap[b]? = w.heap[b]? := fun b hb => hm.below.block b (hlt id hlvid b (hFid b hb)) (hF'M b hb)
  have hlow : ∀ b, (w.heap.size ≤ b ∨ b ∈ M') → w0.w.heap.size ≤ b ∨ b ∈ w0.M := by
    intro b hb
    rcases hb with hb | hb
    · exact .inl (Nat.le_trans hM.below.size hb)
    · obtain ⟨j, hl, hbj⟩ := (hM' b).1 hb
      exact (hM.lo j hl b (sub j hl b hbj)).1.1
  have hbelow : BelowM w0.M w0.w w' := by
    refine hM.below.trans' hm.below.os hm.below.tape hm.below.output hm.below.size (fun b hb hbm => hm.below.block b (Nat.lt_of_lt_of_le hb hM.below.size) (fun hbM => ?_))
    rcases hlow b (.inr hbM) with h | h
    · omega
    · exact hbm h
  have hF'n : ∀ j, Lv σ'.objs G' j → ∀ b ∈ F', b ∉ G'.Φ j := by
    intro j hl b hb hbj
    rcases (hm.lo j hl b hbj).1.1 with h | h
    · have := hlt id hlvid b (hFid b hb)
      exact absurd this (Nat.not_lt.2 h)
    · exact hF'M b hb h
  -- the new row's own
  by_cases hAn : G'.A n
  case neg =>
    have hp : Pres σ'.objs G' w' (Vm.put σ'.objs n (.row true app' sz (rows.take k ++ M ++ rows.drop k))) G' w' ∧ ∀ j, Lv (Vm.put σ'.objs n (.row true app' sz (rows.take k ++ M ++ rows.drop k))) G' j ↔ Lv σ'.objs G' j := by
      have hlv : ∀ j, Lv (Vm.put σ'.objs n (.row true app' sz (rows.take k ++ M ++ rows.drop k))) G' j ↔ Lv σ'.objs G' j := by
        intro j
        unfold Lv
        by_cases e : j = n
        · subst e; exact ⟨fun h => absurd h.1 hAn, fun h => absurd h.1 hAn⟩
        · rw [get_put_other _ _ _ _ e]
      exact ⟨⟨fun _ h => ⟨h, rfl⟩, fun id hl b hb => .inl ⟨id, (hlv id).1 hl, hb⟩, fun _ _ _ => rfl, Nat.le_refl _, rfl, rfl⟩, hlv⟩
    obtain ⟨p2, l2⟩ := hp
    refine ⟨G', hK, ⟨hbelow, hM.base, hm.fix, fun j o ha ho => ?_, fun j hl => hm.nodup j ((l2 j).1 hl), fun j j' hl hl' => hm.disj j j' ((l2 j).1 hl) ((l2 j').1 hl'), fun j hl b hb => ?_, fun j hl => hm.hds j ((l2 j).1 hl)⟩, fun k v hk => v.rep_pres p2 _ (hR'.env k v hk), hR'.lt, hR'.size, hR'.fresh, wf_put hR'.wf (hR'.wf n _ hn), hR'.defers⟩
    · have e : j ≠ n := fun e => hAn (e ▸ ha)
      have ho' := ho
      simp only [get_put_other _ _ _ _ e] at ho'
      exact Ob.rep_pres p2 (id := j) rfl rfl rfl (hm.hds j ⟨ha, _, ho'⟩) (fun _ _ => rfl) o (hm.obs j o ha ho')
    · have := hm.lo j ((l2 j).1 hl) b hb
      exact ⟨⟨hlow b this.1.1, this.1.2⟩, this.2⟩
  have hlvn : Lv σ'.objs G' n := ⟨hAn, _, hn⟩
  obtain ⟨css2, F2, q1, q2, q3, q4⟩ := hm.obs n _ hAn hn
  simp only [if_true] at q4
  obtain ⟨v1, v3, Fx, F3, rfl, rfl, q5, q6⟩ := rows_split q1
  obtain ⟨v1, v2, F1, FM, rfl, rfl, q7, q8⟩ := rows_split q5
  obtain ⟨rfl, rfl⟩ := raw_rows_eq q7
  obtain ⟨rfl, rfl⟩ := raw_rows_eq q6
  simp only [List.nil_append, List.append_nil] at q4
  obtain ⟨Fa, Fb, rfl, s1, s2⟩ := repRows_cut k r1
  have s1' := repRows_keep _ _ _ s1 (fun b hb => hsame b (by simp [hb]))
  have s2' := repRows_keep _ _ _ s2 (fun b hb => hsame b (by simp [hb]))
  have hrows : repRows w' (rows.take k ++ M ++ rows.drop k) (css.take k ++ v2 ++ css.drop k) (Fa ++ FM ++ Fb) := repRows_append (repRows_append s1' q8) s2'
  obtain ⟨p2, l2⟩ := own_pres (G := G') (w := w') (o' := .row true app' sz (rows.take k ++ M ++ rows.drop k)) (F := G'.h n ++ (Fa ++ FM ++ Fb)) hn
  have hndF := (List.nodup_append.1 hnd).2.1
  have hndn := hm.nodup n hlvn
  rw [q4] at hndn
  have inn : ∀ j, Lv σ'.objs G' j → ∀ b ∈ (G'.own n (G'.h n ++ (Fa ++ FM ++ Fb))).Φ j, b ∈ G'.Φ j ∨ (j = n ∧ b ∈ Fa ++ Fb) := by
    intro j hl b hb
    by_cases e : j = n
    · subst e
      simp only [Gh.own, if_pos] at hb
      rw [q4]
      simp only [List.mem_append] at hb ⊢
      rcases hb with hb | (hb | hb) | hb
      · exact .inl (.inl hb)
      · exact .inr (by simp [hb])
      · exact .inl (.inr hb)
      · exact .inr (by simp [hb])
    · simp only [Gh.own, if_neg e] at hb
      exact .inl hb
  have hlenn : (raws (css.take k) ++ M ++ raws (css.drop k)).length = (rows.take k ++ M ++ rows.drop k).length := by
    simp only [List.length_append, raws_length, List.length_take, List.length_drop, hlen]
  refine ⟨G'.own n (G'.h n ++ (Fa ++ FM ++ Fb)), hK, ⟨hbelow, hM.base, hm.fix, fun j o ha ho => ?_, fun j hl => ?_, fun j j' hl hl' hne b hb hb' => ?_, fun j hl b hb => ?_, fun j hl b hb => ?_⟩, fun k v hk => v.rep_pres p2 _ (hR'.env k v hk), hR'.lt, hR'.size, hR'.fresh, wf_put hR'.wf (hR'.wf n _ hn), hR'.defers⟩
  · by_cases e : j = n
    · subst e
      simp only [get_put_same, Option.some.injEq] at ho
      subst ho
      refine ⟨_, _, hrows, q2, ?_, by simp [Gh.own]⟩
      show if app' = true then _ else _
      rw [hlenn] at q3
      cases app' with
      | true => simp only [if_true] at q3 ⊢; exact q3
      | false =>
        simp only [Bool.false_eq_true, if_false] at q3 ⊢
        refine ⟨q3.1, q3.2.imp (fun h => h) (fun h => ⟨List.eq_nil_of_length_eq_zero (by rw [← hlenn, h.1]; rfl), h.2⟩)⟩
    · have ho' := ho
      simp only [get_put_other _ _ _ _ e] at ho'
      exact Ob.rep_pres p2 (id := j) rfl (by simp only [Gh.own, if_neg e]) rfl (hm.hds j ⟨ha, _, ho'⟩) (fun _ _ => rfl) o (hm.obs j o ha ho')
  · by_cases e : j = n
    · subst e
      simp only [Gh.own, if_pos]
      have hx := hF'n j hlvn
      rw [q4] at hx
      rw [List.nodup_append] at hndn hndF ⊢
      refine ⟨hndn.1, ?_, fun x hx1 y hy => ?_⟩
      · rw [List.nodup_append]
        refine ⟨?_, hndF.2.1, fun x hx1 y hy e => ?_⟩
        · rw [List.nodup_append]
          refine ⟨hndF.1, hndn.2.1, fun x hx1 y hy e => ?_⟩
          subst e
          exact hx x (by simp [hx1]) (by simp [hy])
        · subst e
          rcases List.mem_append.1 hx1 with h1 | h1
          · exact hndF.2.2 x h1 x hy rfl
          · exact hx x (by simp [hy]) (by simp [h1])
      · intro e
        subst e
        simp only [List.mem_append] at hy
        rcases hy with (hy | hy) | hy
        · exact hx x (by simp [hy]) (by simp [hx1])
        · exact hndn.2.2 x hx1 x hy rfl
        · exact hx x (by simp [hy]) (by simp [hx1])
    · simp only [Gh.own, if_neg e]
      exact hm.nodup j ((l2 j).1 hl)
  · have k1 := (l2 j).1 hl
    have k2 := (l2 j').1 hl'
    rcases inn j k1 b hb with h1 | ⟨e1, h1⟩
    · rcases inn j' k2 b hb' with h2 | ⟨e2, h2⟩
      · exact hm.disj j j' k1 k2 hne b h1 h2
      · exact hF'n j k1 b h2 h1
    · rcases inn j' k2 b hb' with h2 | ⟨e2, h2⟩
      · exact hF'n j' k2 b h1 h2
      · exact hne (e1.trans e2.symm)
  · have k1 := (l2 j).1 hl
    rcases inn j k1 b hb with h1 | ⟨e1, h1⟩
    · have := hm.lo j k1 b h1
      exact ⟨⟨hlow b this.1.1, this.1.2⟩, this.2⟩
    · have := hM.lo id hlvid b (hFid b h1)
      refine ⟨this.1, ?_⟩
      rw [hsame b h1]
      exact this.2
  · have k1 := (l2 j).1 hl
    by_cases e : j = n
    · subst e
      simp only [Gh.own, if_pos]
      exact List.mem_append_left _ hb
    · simp only [Gh.own, if_neg e]
      exact hm.hds j k1 b hb
end Go.Vm
