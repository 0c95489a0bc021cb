/-
  A drawn region in which a slice does not wait for an append to what the region itself has made.
  The same, in a region that calls with a pointer to a box: loads and slices do not wait for what changes other objects.
  A drawn region whose last operation waits for all others and may change what is older; and one in which the rows of a row of the call's own move: they are seen as concrete values meanwhile.
  A drawn region that reads, calls once a function known by a property of what it gives, and changes at its end.
  Conditions: the table of types fits the program ('TOk').
-/
import Derived.Test.YteecgbgdmfjogaaGreatVmSd
namespace Go.Vm
open Go.RowKit

def isLite : Op → Bool
  | .slice .. | .load .. => true
  | _ => false
def conflictL (ops : Array Oper) (x y : Oper) : Bool :=
  (isVal x.op && isVal y.op) ||
  (  dstIn x.dst (y.looksAt ops) || (dstIn y.dst (x.looksAt ops) || bif isLite x.op || isLite y.op then false else bif Nat.beq (clsO ops x) 2 then !Nat.beq (clsO ops y) 0 else (Nat.beq (clsO ops y) 2 && !Nat.beq (clsO ops x) 0)))
def pairsOKL (ops : Array Oper) (m : Nat) (y : Oper) : Nat → List Oper → Bool
  | _, [] => true
  | j, x :: r => (!sameDst x.dst y.dst && (!conflictL ops x y || Nat.testBit m j)) && pairsOKL ops m y (j + 1) r
def allOKL (ops : Array Oper) (T : List Nat) : Nat → List Oper → List Oper → Bool
  | _, _, [] => true
  | i, pre, y :: r => ((match T[i]? with | some m => pairsOKL ops m y 0 pre | none => false) && (!dstIn y.dst (y.looksAt ops) && (y.after.toList.all fun e => !Region.binds .any e || Nat.blt e.on i))) && allOKL ops T (i + 1) (pre ++ [y]) r
def drawOKL (ops : Array Oper) : Bool := allOKL ops (masks ops.toList []) 0 [] ops.toList
/-- The old objects are as they were. -/
def frmO (O O' : List (Nat × Ob)) : Nat → Prop
  | 0 => True
  | n + 1 => get O' n = get O n ∧ frmO O O' n
theorem frmO_iff {O O' : List (Nat × Ob)} : ∀ {n : Nat}, frmO O O' n → ∀ id, id < n → get O' id = get O id
  | 0, _, id, h => absurd h (Nat.not_lt_zero _)
  | n + 1, h, id, hi => by
    by_cases e : id = n
    · rw [e]; exact h.1
    · exact frmO_iff h.2 id (by omega)
def evOpsL (P : Program) (E : Nat → Option TI) (nt : Nat) (O0 : List (Nat × Ob)) (n0 : Nat) (ops : Array Oper) : List Oper → (St → Prop) → St → Prop
  | [], K, σ => K σ
  | o :: rest, K, σ => scase (dstOk nt o.dst && noG o) (match isLite o.op with
    | true => evOpF P E false (frO false ops o) o.op ⟨σ.env, O0, σ.next⟩ fun v τ => (τ.objs = O0 ∧ τ.next = σ.next) ∧ putK σ o.dst v (evOpsL P E nt O0 n0 ops rest K)
    | false => evOpF P E false (frO false ops o) o.op σ fun v σ' => frmO O0 σ'.objs n0 ∧ putK σ' o.dst v (evOpsL P E nt O0 n0 ops rest K)) False

structure DrawOKL (ops : Array Oper) : Prop where
  pair : ∀ (i j : Nat) (x y : Oper), j < i → ops[j]? = some x → ops[i]? = some y → (∀ d, x.dst = some d → y.dst ≠ some d) ∧ (conflictL ops x y = true → Reach ops i j)
  self : ∀ (i : Nat) (y : Oper) (d : Nat), ops[i]? = some y → y.dst = some d → d ∉ y.looksAt ops
  back : ∀ (i : Nat) (y : Oper) (e : Edge), ops[i]? = some y → e ∈ y.after → Region.binds .any e = true → e.on < i

theorem pairsOKL_spec {ops : Array Oper} {m : Nat} {y : Oper} : ∀ {l : List Oper} {j : Nat}, pairsOKL ops m y j l = true → ∀ k x, l[k]? = some x → sameDst x.dst y.dst = false ∧ (conflictL ops x y = true → m.testBit (j + k) = true)
  | [], j, _, k, x, h => by simp at h
  | z :: r, j, h, k, x, hk => by
    simp only [pairsOKL, Bool.and_eq_true, Bool.or_eq_true, Bool.not_eq_true'] at h
    obtain ⟨⟨h1, h2⟩, h3⟩ := h
    cases k with
    | zero =>
      simp at hk
      subst hk
      exact ⟨h1, fun hc => by rcases h2 with h2 | h2 <;> simp_all⟩
    | succ k =>
      have := pairsOKL_spec h3 k x (by simpa using hk)
      rw [show j + (k + 1) = j + 1 + k by omega]
      exact this

theorem drawOKL_spec {ops : Array Oper} (h : drawOKL ops = true) : DrawOKL ops := by
  unfold drawOKL at h
  have hreach := masks_reach (ops := ops) ops.toList [] (fun i o hi => by simpa using hi) (fun i x j hi => by simp at hi)
  generalize masks ops.toList [] = T at h hreach
  have key : ∀ (l pre : List Oper) (i : Nat), pre.length = i → pre ++ l = ops.toList → allOKL ops T i pre l = true → ∀ k y, l[k]? = some y →
      (∃ m, T[i + k]? = some m ∧ ∀ j x, j < i + k → ops[j]? = some x → sameDst x.dst y.dst = false ∧ (conflictL ops x y = true → m.testBit j = true)) ∧ dstIn y.dst (y.looksAt ops) = false ∧
        ∀ e ∈ y.after, Region.binds .any e = true → e.on < i + k := by
    intro l
    induction l with
    | nil => intro pre i _ _ _ k y hk; simp at hk
    | cons z r ih =>
      intro pre i hpl happ hok k y hk
      simp only [allOKL, Bool.and_eq_true] at hok
      obtain ⟨⟨h1, h2, h3⟩, h4⟩ := hok
      cases k with
      | zero =>
        simp at hk
        subst hk
        refine ⟨?_, by simpa using h2, fun e he hb => ?_⟩
        · split at h1
          · rename_i m hm
            refine ⟨m, hm, fun j x hj hx => ?_⟩
            have hpj : pre[j]? = some x := by
              rw [← Array.getElem?_toList, ← happ, List.getElem?_append_left (by omega)] at hx
              exact hx
            simpa using pairsOKL_spec h1 j x hpj
          · cases h1
        · have := List.all_eq_true.1 h3 e (by simpa using he)
          simp only [hb, Bool.not_true, Bool.false_or] at this
          have : e.on + 1 ≤ i := by simpa [Nat.blt] using this
          omega
      | succ k =>
        have := ih (pre ++ [z]) (i + 1) (by simp [hpl]) (by simpa using happ) h4 k y (by simpa using hk)
        rw [show i + (k + 1) = i + 1 + k by omega]
        exact this
  have k0 := fun k y hk => key ops.toList [] 0 rfl rfl h k y hk
  simp only [Nat.zero_add, Array.getElem?_toList] at k0
  refine ⟨fun i j x y hj hx hy => ?_, fun i y d hy hd => ?_, fun i y e hy he hb => (k0 i y hy).2.2 e he hb⟩
  · obtain ⟨m, hm, hall⟩ := (k0 i y hy).1
    obtain ⟨h1, h2⟩ := hall j x hj hx
    refine ⟨fun d hd hd' => ?_, fun hc => hreach i m j hm (h2 hc)⟩
    rw [hd, hd'] at h1
    simp [sameDst] at h1
  · have := (k0 i y hy).2.1
    rw [hd] at this
    simp only [dstIn] at this
    intro hmem
    rw [memN_iff.2 hmem] at this
    cases this

section
variable {P : Program} {E : Nat → Option TI} {nt : Nat} {w0 : Base} {ops : Array Oper} {s : Nat → St} {av : Nat → AV}
theorem slots_atL (hF : Facts0 P nt ops s av) (hd : DrawOKL ops) {listed : Array Bool} {m : Nat} {G : Gh} {a : Act} {w : World} (hI : Inv w0 nt ops s av listed m G a w) {j : Nat} {o : Oper} (ho : ops[j]? = some o) (hj : j ∈ Region.ready .any ops listed) :
    Slots nt ops o (s j).env (s m).objs G w a := by
  have hjn : j < ops.size := (Array.getElem?_eq_some_iff.1 ho).1
  have hnj : ¬ inS listed j := by
    have := (mem_ready.1 hj).1
    unfold inS
    rw [Array.getD_eq_getD_getElem?] at this ⊢
    rw [Array.getElem?_eq_getElem (by rw [hI.size]; exact hjn)] at this ⊢
    simp at this ⊢
    exact this
  refine ⟨hI.tmps, fun k hk u hu => ?_⟩
  rcases env_at hF (Nat.le_of_lt hjn) k u hu with ⟨i, x, h1, h2, h3, rfl⟩ | ⟨h1, h2⟩
  · have hc : conflictL ops x o = true := by simp [conflictL, h3, dstIn, memN_iff.2 hk]
    have := ready_reach hI.closed hj ((hd.pair j i x o h1 h2 ho).2 hc)
    exact ⟨.inl ((hF.fact i x h2).dst k h3), hI.done i x k this h2 h3⟩
  · refine ⟨hF.lt k u h2, hI.kept k u h2 (fun i x hi hx hdx => ?_)⟩
    rcases Nat.lt_or_ge i j with h | h
    · exact h1 i x h hx hdx
    · have hne : i ≠ j := fun e => by subst e; exact hnj hi
      have hc : conflictL ops o x = true := by simp [conflictL, hdx, dstIn, memN_iff.2 hk]
      exact hnj (reach_in hI.closed ((hd.pair i j o x (by omega) ho hx).2 hc) hi)

/-- One operation more. -/
theorem inv_stepL (hF : Facts0 P nt ops s av) (hd : DrawOKL ops) {listed : Array Bool} {m m' : Nat} {G G' : Gh} {a : Act} {w w' : World} (hI : Inv w0 nt ops s av listed m G a w) {j : Nat} {o : Oper} (ho : ops[j]? = some o) (hj : j ∈ Region.ready .any ops listed)
    (hph : Phase ops (listed.setIfInBounds j true) m') (hM : Mem w0 (s m').objs G' w') (hp : Pres (s m).objs G w (s m').objs G' w') {v : Value} (hv : (av j).rep (s m').objs G' w' v) (hA : ∀ x, G'.A x → G.A x ∨ (x < (s 0).next ∨ ∃ i, inS (listed.setIfInBounds j true) i ∧ (s i).next ≤ x ∧ x < (s (i + 1)).next)) :
    Inv w0 nt ops s av (listed.setIfInBounds j true) m' G' (a.put o.dst v) w' := by
  have hjn : j < ops.size := (Array.getElem?_eq_some_iff.1 ho).1
  have hjl : j < listed.size := by rw [hI.size]; exact hjn
  obtain ⟨_, o', ho', hall⟩ := mem_ready.1 hj
  rw [ho] at ho'
  injection ho' with ho'
  subst ho'
  have hfj := hF.fact j o ho
  have slot : ∀ {k : Nat}, o.dst ≠ some k → (a.put o.dst v).tmps.getD k undef = a.tmps.getD k undef := by
    intro k hk
    cases hdo : o.dst with
    | none => rfl
    | some d => exact getD_put_other (fun e => hk (by rw [hdo, e]))
  refine ⟨by simp [hI.size], fun i x e hi hx he hb => ?_, hph, hM, fun x hx => ?_, fun i x k hi hx hk => ?_, fun k u hu hno => ?_, ?_, ?_⟩
  · rcases inS_set hi with hi | rfl
    · exact inS_set_mono (hI.closed i x e hi hx he hb)
    · rw [ho] at hx
      injection hx with hx
      subst hx
      exact inS_set_mono (hall e he hb)
  · rcases hA x hx with h | h
    · rcases hI.laid x h with h | ⟨i, h1, h2⟩
      · exact .inl h
      · exact .inr ⟨i, inS_set_mono h1, h2⟩
    · exact h
  · by_cases e : i = j
    · subst e
      rw [ho] at hx
      injection hx with hx
      subst hx
      rw [hk, getD_put_same (by rw [hI.tmps]; exact hfj.dst k hk)]
      exact hv
    · have hi' : inS listed i := (inS_set hi).resolve_right e
      have hne : o.dst ≠ some k := by
        intro hok
        rcases Nat.lt_or_ge i j with h | h
        · exact (hd.pair j i x o h hx ho).1 k hk hok
        · exact (hd.pair i j o x (by omega) ho hx).1 k hok hk
      rw [slot hne]
      exact (av i).rep_pres hp _ (hI.done i x k hi' hx hk)
  · have hne : o.dst ≠ some k := hno j o (getD_set_same hjl) ho
    rw [slot hne]
    exact u.rep_pres hp _ (hI.kept k u hu (fun i x hi hx => hno i x (inS_set_mono hi) hx))
  · rw [← hI.tmps]
    cases o.dst <;> simp [Act.put]
  · rw [← hI.defers]
    cases o.dst <;> rfl

theorem conflictL_me {x y : Oper} (hx : isLite x.op = false) (hy : isLite y.op = false) (h : (clsO ops x = 2 ∧ clsO ops y ≠ 0) ∨ (clsO ops y = 2 ∧ clsO ops x ≠ 0)) : conflictL ops x y = true := by
  have e : ∀ {n : Nat}, n ≠ 0 → Nat.beq n 0 = false := fun {n} hn => by cases n with | zero => omega | succ n => rfl
  unfold conflictL
  rcases h with ⟨h1, h2⟩ | ⟨h1, h2⟩
  · simp [h1, e h2, hx, hy]
  · cases hb : Nat.beq (clsO ops x) 2 with
    | true => have := e (n := clsO ops y) (by omega); simp [this, hx, hy]
    | false => simp [h1, e h2, hx, hy]
theorem lite_one {op : Op} (h : isLite op = true) : cls op = 1 := by
  unfold isLite at h
  split at h
  · rfl
  · rfl
  · cases h
theorem lite_clsO {o : Oper} (h : isLite o.op = true) : clsO ops o = 1 := by
  unfold clsO
  split
  · rfl
  · exact lite_one h
theorem lite_cls {o : Oper} (h : clsO ops o = 2) : isLite o.op = false := by
  cases hl : isLite o.op with
  | false => rfl
  | true => rw [lite_clsO hl] at h; cases h
structure LiteF (P : Program) (nt : Nat) (ops : Array Oper) (s : Nat → St) (av : Nat → AV) : Prop where
  frm : ∀ i, i ≤ ops.size → ∀ id, id < (s 0).next → get (s i).objs id = get (s 0).objs id
  lite : ∀ (i : Nat) o, ops[i]? = some o → isLite o.op = true → (s (i + 1)).next = (s i).next ∧ GoB P nt ops i o ⟨(s i).env, (s 0).objs, (s i).next⟩ (av i) ⟨(s i).env, (s 0).objs, (s i).next⟩
theorem draw_anyL (hF : Facts0 P nt ops s av) (hL : LiteF P nt ops s av) (hd : DrawOKL ops) {Q : Exit → Act → World → Prop} (hQ : ∀ G a w, Rel w0 (s ops.size) G nt a w → Q .normal a w) :
    ∀ (fuel : Nat) (listed : Array Bool) (m : Nat) (G : Gh) (a : Act) (w : World), (List.range ops.size).countP (fun i => !listed.getD i false) ≤ fuel → Inv w0 nt ops s av listed m G a w → wpAny P .any ops Q fuel listed a w := by
  have fin : ∀ (listed : Array Bool) (m : Nat) (G : Gh) (a : Act) (w : World), Inv w0 nt ops s av listed m G a w → Region.ready .any ops listed = [] → Q .normal a w := by
    intro listed m G a w hI hr
    have all : ∀ i, i < ops.size → inS listed i := by
      intro i
      induction i using Nat.strongRecOn with
      | ind i ih =>
        intro hi
        by_cases h : inS listed i
        · exact h
        · exfalso
          have : i ∈ Region.ready .any ops listed := mem_ready.2 ⟨by
            unfold inS at h
            rw [Array.getD_eq_getD_getElem?] at h ⊢
            rw [Array.getElem?_eq_getElem (by rw [hI.size]; exact hi)] at h ⊢
            simpa using h, ops[i], by simp, fun e he hb => by
              have hlt := hd.back i ops[i] e (by simp) he hb
              exact ih e.on hlt (by omega)⟩
          rw [hr] at this
          cases this
    have hm : m = ops.size := by
      rcases Nat.lt_or_ge m ops.size with h | h
      · exact absurd (all m h) (hI.ph.new ops[m] (by simp)).2
      · have := hI.ph.le; omega
    have hm' := hm
    subst hm
    refine hQ G a w ⟨hI.mem, fun k u hu => ?_, fun k u hu => ?_, hI.tmps, fun j hj => ?_, wf_all hF (Nat.le_refl _), hI.defers⟩
    · rcases env_at hF (Nat.le_refl _) k u hu with ⟨i, x, h1, h2, h3, rfl⟩ | ⟨h1, h2⟩
      · exact hI.done i x k (all i h1) h2 h3
      · exact hI.kept k u h2 (fun i x hi hx => h1 i x (Array.getElem?_eq_some_iff.1 hx).1 hx)
    · rcases env_at hF (Nat.le_refl _) k u hu with ⟨i, x, h1, h2, h3, rfl⟩ | ⟨h1, h2⟩
      · exact .inl ((hF.fact i x h2).dst k h3)
      · exact hF.lt k u h2
    · rcases hI.laid j hj with h | ⟨i, h1, h2, h3⟩
      · exact Nat.lt_of_lt_of_le h (next_mono hF (Nat.zero_le _) (Nat.le_refl _))
      · have hi := inS_lt h1
        rw [hI.size] at hi
        exact Nat.lt_of_lt_of_le h3 (next_mono hF (by omega) (Nat.le_refl _))
  intro fuel
  induction fuel with
  | zero =>
    intro listed m G a w hc hI
    have hr : Region.ready .any ops listed = [] := by
      refine List.eq_nil_iff_forall_not_mem.2 (fun j hj => ?_)
      obtain ⟨h1, o, h2, _⟩ := mem_ready.1 hj
      have hjn : j < ops.size := (Array.getElem?_eq_some_iff.1 h2).1
      have h0 : (List.range ops.size).countP (fun i => !listed.getD i false) = 0 := by omega
      have := List.countP_eq_zero.1 h0 j (by simp [hjn])
      rw [Array.getD_eq_getD_getElem?] at h1 this
      rw [Array.getElem?_eq_getElem (by rw [hI.size]; exact hjn)] at h1 this
      simp at h1 this
      rw [h1] at this
      cases this
    exact ⟨hr, fin listed m G a w hI hr⟩
  | succ fuel ih =>
    intro listed m G a w hc hI
    refine ⟨fin listed m G a w hI, fun j hj => ?_⟩
    obtain ⟨hun, o, ho, _⟩ := mem_ready.1 hj
    have hjn : j < ops.size := (Array.getElem?_eq_some_iff.1 ho).1
    have hjl : j < listed.size := by rw [hI.size]; exact hjn
    have hnj : ¬ inS listed j := by
      unfold inS
      rw [Array.getD_eq_getD_getElem?] at hun ⊢
      rw [Array.getElem?_eq_getElem hjl] at hun ⊢
      simp at hun ⊢
      exact hun
    have hcnt : (List.range ops.size).countP (fun i => !(listed.setIfInBounds j true).getD i false) ≤ fuel := by
      have := countP_lt (p := fun i => !listed.getD i false) (q := fun i => !(listed.setIfInBounds j true).getD i false) (l := List.range ops.size) (x := j) (fun y _ hy => by
        by_cases h : inS listed y
        · have := inS_set_mono (i := j) h
          unfold inS at this
          rw [this] at hy
          cases hy
        · unfold inS at h
          cases hb : listed.getD y false with
          | true => exact absurd hb h
          | false => rfl) (by simp [hjn]) (by unfold inS at hnj; cases hb : listed.getD j false with | true => exact absurd hb hnj | false => rfl)
          (by have := getD_set_same hjl; unfold inS at this; simp [this])
      omega
    have hf := hF.fact j o ho
    have hsl := slots_atL hF hd hI ho hj
    have same : clsO ops o ≠ 2 → Phase ops (listed.setIfInBounds j true) m := fun h2 => ⟨hI.ph.le, fun i x hi hx hcx => inS_set_mono (hI.ph.old i x hi hx hcx), fun x hx => by
      obtain ⟨h3, h4⟩ := hI.ph.new x hx
      refine ⟨h3, fun h5 => ?_⟩
      rcases inS_set h5 with h5 | rfl
      · exact h4 h5
      · rw [ho] at hx; injection hx with hx; subst hx; exact h2 h3⟩
    rcases clsO_le ops o with h0 | h1 | h2
    · obtain ⟨_, _, hg⟩ := hf.a h0
      refine hg _ G w a _ Q hsl (fun u hu => ih _ m G _ w hcnt (inv_stepL hF hd hI ho hj (same (by omega)) hI.mem Pres.refl hu (fun x hx => .inl hx)))
    · cases hlo : isLite o.op with
      | true =>
        obtain ⟨hnx, hg⟩ := hL.lite j o ho hlo
        refine hg w0 (s m).objs G w a _ Q (fun id ob hob => ?_) hI.mem hsl (fun x hx1 hx2 => absurd hx1 (Nat.not_le_of_lt hx2)) (fun G' u w' hM' hp hu hA => ih _ m G' _ w' hcnt (inv_stepL hF hd hI ho hj (same (by omega)) hM' hp hu (fun x hx => (hA x hx).imp_right (fun h => absurd h.1 (Nat.not_le_of_lt h.2)))))
        rw [hL.frm m hI.ph.le id (wf_all hF (Nat.zero_le _) id ob hob)]; exact hob
      | false =>
        have hjm : j < m := by
          rcases Nat.lt_or_ge j m with h | h
          · exact h
          · exfalso
            have hmn : m < ops.size := by omega
            obtain ⟨h3, h4⟩ := hI.ph.new ops[m] (by simp)
            have hne : m ≠ j := fun e => by
              subst e
              rw [Array.getElem?_eq_getElem hmn] at ho
              injection ho with ho
              rw [ho] at h3
              omega
            exact h4 (ready_reach hI.closed hj ((hd.pair j m ops[m] o (by omega) (by simp) ho).2 (conflictL_me (lite_cls h3) (by first | exact hlo | exact lite_cls h2) (.inl ⟨h3, by omega⟩))))
        have hext := objs_ext hF (i := j + 1) (j := m) (by omega) hI.ph.le (fun k x hk1 hk2 hx hcx => by
          have hk := hI.ph.old k x hk2 hx hcx
          exact hnj (reach_in hI.closed ((hd.pair k j o x (by omega) ho hx).2 (conflictL_me (by first | exact hlo | exact lite_cls h2) (lite_cls hcx) (.inr ⟨hcx, by omega⟩))) hk))
        refine hf.b h1 w0 (s m).objs G w a _ Q (fun id ob hob => ?_) hI.mem hsl (fun x hx1 hx2 hA => ?_) (fun G' u w' hM' hp hu hA => ih _ m G' _ w' hcnt (inv_stepL hF hd hI ho hj (same (by omega)) hM' hp hu (fun x hx => (hA x hx).imp_right (fun h => .inr ⟨j, getD_set_same hjl, h⟩))))
        · rw [hext id (hf.wf id ob hob)]; exact hob
        · rcases hI.laid x hA with h | ⟨i, h3, h4, h5⟩
          · have := next_mono hF (Nat.zero_le j) (Nat.le_of_lt hjn)
            omega
          · have hil := inS_lt h3
            rw [hI.size] at hil
            rcases Nat.lt_trichotomy i j with h | h | h
            · have := next_mono hF (show i + 1 ≤ j from h) (Nat.le_of_lt hjn)
              omega
            · subst h; exact hnj h3
            · have := next_mono hF (show j + 1 ≤ i from h) (Nat.le_of_lt hil)
              omega
    · have hjm : j = m := by
        rcases Nat.lt_trichotomy j m with h | h | h
        · exact absurd (hI.ph.old j o h ho h2) hnj
        · exact h
        · exfalso
          have hmn : m < ops.size := by omega
          obtain ⟨h3, h4⟩ := hI.ph.new ops[m] (by simp)
          exact h4 (ready_reach hI.closed hj ((hd.pair j m ops[m] o h (by simp) ho).2 (conflictL_me (lite_cls h3) (by first | exact hlo | exact lite_cls h2) (.inl ⟨h3, by omega⟩))))
      subst hjm
      have hlt : ∀ x, G.A x → x < (s j).next := by
        intro x hA
        rcases hI.laid x hA with h | ⟨i, h3, h4, h5⟩
        · exact Nat.lt_of_lt_of_le h (next_mono hF (Nat.zero_le j) (Nat.le_of_lt hjn))
        · have hil := inS_lt h3
          rw [hI.size] at hil
          rcases Nat.lt_trichotomy i j with h | h | h
          · exact Nat.lt_of_lt_of_le h5 (next_mono hF h (Nat.le_of_lt hjn))
          · subst h; exact absurd h3 hnj
          · exfalso
            have hx : ops[i]? = some ops[i] := by simp
            by_cases hci : clsO ops (ops[i]) = 0
            · have := ((hF.fact i _ hx).a hci).2.1
              omega
            · cases hli : isLite (ops[i]).op with
              | true => have := (hL.lite i _ hx hli).1; omega
              | false => exact hnj (reach_in hI.closed ((hd.pair i j o ops[i] h ho hx).2 (conflictL_me (lite_cls h2) hli (.inl ⟨h2, hci⟩))) h3)
      obtain ⟨m', hm1, hm2, hm3, hm4⟩ := phase_next (ops.size - (j + 1)) ops.size (j + 1) rfl (by omega) (fun i => match ops[i]? with | some x => Nat.beq (clsO ops x) 2 | none => false)
      have hno : ∀ (k : Nat) x, j + 1 ≤ k → k < m' → ops[k]? = some x → clsO ops x ≠ 2 := by
        intro k x h1 h2 h3 h4
        have := hm3 k h1 h2
        simp [h3, h4] at this
      have hext := objs_ext hF (i := j + 1) (j := m') hm1 hm2 hno
      have hph : Phase ops (listed.setIfInBounds j true) m' := by
        refine ⟨hm2, fun i x hi hx hcx => ?_, fun x hx => ?_⟩
        · rcases Nat.lt_trichotomy i j with h | h | h
          · exact inS_set_mono (hI.ph.old i x h hx hcx)
          · subst h; exact getD_set_same hjl
          · exact absurd hcx (hno i x h hi hx)
        · have hlt' : m' < ops.size := (Array.getElem?_eq_some_iff.1 hx).1
          have hc2 := hm4 hlt'
          simp only [hx] at hc2
          have hc2 := Nat.eq_of_beq_eq_true hc2
          refine ⟨hc2, fun h => ?_⟩
          rcases inS_set h with h | rfl
          · exact hnj (reach_in hI.closed ((hd.pair m' j o x (by omega) ho hx).2 (conflictL_me (lite_cls h2) (lite_cls hc2) (.inl ⟨h2, by omega⟩))) h)
          · omega
      refine hf.e h2 w0 G w a _ Q hI.mem hsl hlt (fun G' u w' hM' hp hu hA => ?_)
      obtain ⟨hM2, hp2⟩ := mem_later hM' hA hext
      refine ih _ m' G' _ w' hcnt (inv_stepL hF hd hI ho hj hph hM2 (hp.trans hp2) ((av j).rep_pres hp2 _ hu) (fun x hx => ?_))
      right
      by_cases h0 : x < (s 0).next
      · exact .inl h0
      · obtain ⟨i, h3, h4, h5⟩ := range_of (s := s) (j + 1) x (by omega) (hA x hx)
        refine .inr ⟨i, ?_, h4, h5⟩
        rcases Nat.lt_or_ge i j with h | h
        · have hx' : ops[i]? = some ops[i] := by simp
          cases hli : isLite (ops[i]).op with
          | true => have := (hL.lite i _ hx' hli).1; omega
          | false =>
            refine inS_set_mono (ready_reach hI.closed hj ((hd.pair j i ops[i] o h hx' ho).2 (conflictL_me hli (lite_cls h2) (.inr ⟨h2, fun hci => ?_⟩))))
            have := ((hF.fact i _ hx').a hci).2.1
            omega
        · have : i = j := by omega
          subst this
          exact getD_set_same hjl
theorem evOpsL_trace (hE : TOk P E) {K : St → Prop} {O0 : List (Nat × Ob)} {n0 : Nat} : ∀ (l : List Oper) (p : Nat) (σ : St), (∀ i o, l[i]? = some o → ops[p + i]? = some o) → σ.wf → (∀ id, id < n0 → get σ.objs id = get O0 id) → n0 ≤ σ.next → (∀ id ob, get O0 id = some ob → id < n0) → evOpsL P E nt O0 n0 ops l K σ →
    ∃ (s : Nat → St) (av : Nat → AV), s p = σ ∧ (∀ i o, l[i]? = some o → Fact P nt ops (p + i) o (s (p + i)) (av (p + i)) (s (p + i + 1))) ∧ K (s (p + l.length)) ∧
      (∀ i o, l[i]? = some o → (∀ id, id < n0 → get (s (p + i + 1)).objs id = get O0 id) ∧ (isLite o.op = true → (s (p + i + 1)).next = (s (p + i)).next ∧ GoB P nt ops (p + i) o ⟨(s (p + i)).env, O0, (s (p + i)).next⟩ (av (p + i)) ⟨(s (p + i)).env, O0, (s (p + i)).next⟩))
  | [], p, σ, _, _, _, _, _, h => ⟨fun _ => σ, fun _ => .junk, rfl, by simp, h, by simp⟩
  | o :: rest, p, σ, hl, hw, hfr, hn0, hO, h => by
    have hi : ops[p]? = some o := by simpa using hl 0 o (by simp)
    simp only [evOpsL, putK_eq] at h
    rcases scase_out h with ⟨hd, h⟩ | ⟨_, h⟩
    case inr => exact h.elim
    rw [Bool.and_eq_true] at hd
    obtain ⟨hd, hgd⟩ := hd
    have hg : o.guard = none := by unfold noG at hgd; split at hgd <;> simp_all
    have next : ∀ {v : AV} {σ' : St}, Fact P nt ops p o σ v σ' → (∀ id, id < n0 → get σ'.objs id = get O0 id) → (isLite o.op = true → σ'.next = σ.next ∧ GoB P nt ops p o ⟨σ.env, O0, σ.next⟩ v ⟨σ.env, O0, σ.next⟩) → evOpsL P E nt O0 n0 ops rest K σ' → ∃ (s : Nat → St) (av : Nat → AV), s p = σ ∧ (∀ i q, (o :: rest)[i]? = some q → Fact P nt ops (p + i) q (s (p + i)) (av (p + i)) (s (p + i + 1))) ∧ K (s (p + (o :: rest).length)) ∧
        (∀ i q, (o :: rest)[i]? = some q → (∀ id, id < n0 → get (s (p + i + 1)).objs id = get O0 id) ∧ (isLite q.op = true → (s (p + i + 1)).next = (s (p + i)).next ∧ GoB P nt ops (p + i) q ⟨(s (p + i)).env, O0, (s (p + i)).next⟩ (av (p + i)) ⟨(s (p + i)).env, O0, (s (p + i)).next⟩)) := by
      intro v σ' hf hfr' hlt h
      obtain ⟨s, av, h1, h2, h3, h4⟩ := evOpsL_trace hE rest (p + 1) σ' (fun i q hq => by
        have := hl (i + 1) q (by simpa using hq)
        rw [show p + 1 + i = p + (i + 1) by omega]; exact this) hf.wf hfr' (Nat.le_trans hn0 hf.next) hO h
      refine ⟨fun i => if i = p then σ else s i, fun i => if i = p then v else av i, by simp, fun i q hq => ?_, ?_, fun i q hq => ?_⟩
      · cases i with
        | zero =>
          simp at hq
          subst hq
          simpa [h1] using hf
        | succ i =>
          have := h2 i q (by simpa using hq)
          rw [show p + 1 + i = p + (i + 1) by omega] at this
          have e1 : p + (i + 1) ≠ p := by omega
          have e2 : p + (i + 1) + 1 ≠ p := by omega
          simp only [e1, e2, if_false]
          exact this
      · have e1 : p + (rest.length + 1) ≠ p := by omega
        simp only [List.length_cons, e1, if_false]
        rw [show p + (rest.length + 1) = p + 1 + rest.length by omega]
        exact h3
      · cases i with
        | zero =>
          simp at hq
          subst hq
          have e2 : p + 1 ≠ p := by omega
          simp only [Nat.add_zero, e2, if_false, if_true, h1]
          exact ⟨hfr', hlt⟩
        | succ i =>
          have := h4 i q (by simpa using hq)
          rw [show p + 1 + i = p + (i + 1) by omega] at this
          have e1 : p + (i + 1) ≠ p := by omega
          have e2 : p + (i + 1) + 1 ≠ p := by omega
          simp only [e1, e2, if_false]
          exact this
    split at h
    · rename_i hlo
      have hwτ : St.wf ⟨σ.env, O0, σ.next⟩ := fun id x hx => Nat.lt_of_lt_of_le (hO id x hx) hn0
      have hc1 : clsO ops o = 1 := lite_clsO hlo
      obtain ⟨v, τ, ⟨⟨ho1, ho2⟩, hk⟩, hf⟩ := fact_run (nt := nt) (σ := ⟨σ.env, O0, σ.next⟩) (τ := ⟨σ.env, O0, σ.next⟩) hE hi hwτ hd (fun _ _ h => h) rfl rfl (fun O G w a _ => by simp [Region.wanted, hg]) h
      have hgb : GoB P nt ops p o ⟨σ.env, O0, σ.next⟩ v ⟨σ.env, O0, σ.next⟩ := by
        have h5 := hf.b hc1
        obtain ⟨q1, q2, _⟩ := put_st τ o.dst v
        unfold GoB at h5 ⊢
        rw [q1, q2, ho1, ho2] at h5
        exact h5
      obtain ⟨p1, p2, p3⟩ := put_st σ o.dst v
      refine next (v := v) (σ' := σ.put o.dst v) ⟨hi, hf.dst, by rw [p2]; exact Nat.le_refl _, p3 hw, put_env (fun _ _ h => h) rfl, fun _ id _ => by rw [p1], fun h0 => by omega, fun _ => ?_, fun h0 => by omega⟩ (by rw [p1]; exact hfr) (fun _ => ⟨p2, hgb⟩) hk
      intro w0 O G w a Kc Q hsub hM hs hfr2 hK
      rw [p1] at hsub
      rw [p2] at hfr2 hK
      exact hgb w0 O G w a Kc Q (fun id ob hob => hsub id ob (by rw [hfr id (hO id ob hob)]; exact hob)) hM hs hfr2 hK
    · rename_i hlo
      obtain ⟨v, σ', ⟨hfo, hk⟩, hf⟩ := fact_run (nt := nt) (τ := σ) hE hi hw hd (fun _ _ h => h) rfl rfl (fun O G w a _ => by simp [Region.wanted, hg]) h
      obtain ⟨p1, _, _⟩ := put_st σ' o.dst v
      exact next hf (by rw [p1]; exact frmO_iff hfo) (fun h0 => by rw [hlo] at h0; cases h0) hk

/-- THE DRAWN REGION. -/
theorem draw_wpAnyL (hE : TOk P E) (nt : Nat) (w0 : Base) (ops : Array Oper) (K : St → Prop) (σ : St) (G : Gh) (a : Act) (w : World) (hok : drawOKL ops = true)
    (h : evOpsL P E nt σ.objs σ.next ops ops.toList K σ) (hR : Rel w0 σ G nt a w) : wpAny P .any ops (Post w0 nt fun e σ' => e = .normal ∧ K σ') ops.size (Array.replicate ops.size false) a { w with drawn := w.drawn + 1 } := by
  obtain ⟨s, av, h1, h2, h3, h4⟩ := evOpsL_trace hE ops.toList 0 σ (fun i o hi => by simpa using hi) hR.wf (fun _ _ => rfl) (Nat.le_refl _) hR.wf h
  have hF : Facts0 P nt ops s av := ⟨fun i o ho => by have := h2 i o (by simpa using ho); simpa using this, by rw [h1]; exact hR.wf, by rw [h1]; exact hR.lt⟩
  have hL : LiteF P nt ops s av := ⟨fun i hi id hid => by
      rw [h1] at hid ⊢
      cases i with
      | zero => rw [h1]
      | succ i => have := (h4 i ops[i] (by simp)).1 id hid; simpa using this, fun i o ho hl => by
      have := (h4 i o (by simpa using ho)).2 hl
      rw [h1]; simpa using this⟩
  have hd := drawOKL_spec hok
  simp only [Array.length_toList, Nat.zero_add] at h3
  have no : ∀ i, ¬ inS (Array.replicate ops.size false) i := fun i h => by
    unfold inS at h
    rw [Array.getD_eq_getD_getElem?, Array.getElem?_replicate] at h
    split at h <;> simp at h
  obtain ⟨m, _, hm2, hm3, hm4⟩ := phase_next (ops.size - 0) ops.size 0 rfl (by omega) (fun i => match ops[i]? with | some x => Nat.beq (clsO ops x) 2 | none => false)
  have hno : ∀ (k : Nat) x, 0 ≤ k → k < m → ops[k]? = some x → clsO ops x ≠ 2 := by
    intro k x h1 h2 h3 h4
    have := hm3 k h1 h2
    simp [h3, h4] at this
  have hM0 : Mem w0 σ.objs G { w with drawn := w.drawn + 1 } ∧ Pres σ.objs G w σ.objs G { w with drawn := w.drawn + 1 } :=
    hR.mem.step (fun id => Lv σ.objs G id) (fun _ => False) (fun id h => ⟨h, rfl⟩) ⟨rfl, rfl⟩ (fun id h => ⟨h, rfl, rfl, rfl⟩) (fun id h => .inl h) rfl rfl rfl (Nat.le_refl _) (fun b _ _ => rfl)
      (fun _ h => h.elim) (fun _ _ h => h.elim) (fun _ h => h.elim) (fun _ h => h.elim) (fun _ _ h => h.elim)
  have hlt : ∀ j, G.A j → j < (s 0).next := fun j hj => by rw [h1]; exact hR.fresh j hj
  obtain ⟨hM1, hp1⟩ := mem_later hM0.1 hR.fresh (by
    have := objs_ext hF (Nat.zero_le m) hm2 hno
    rw [h1] at this
    exact this)
  have hp := hM0.2.trans hp1
  refine draw_anyL (w0 := w0) hF hL hd (fun G' a' w' hR' => ⟨.normal, s ops.size, G', rfl, ⟨rfl, h3⟩, hR'⟩) ops.size _ m G a _ ?_ ⟨by simp, fun i o e hi => absurd hi (no i), ⟨hm2, fun i o hi ho hc => absurd hc (hno i o (Nat.zero_le _) hi ho), fun o ho => ⟨?_, no m⟩⟩, hM1, fun j hj => .inl (hlt j hj), fun i o k hi => absurd hi (no i), fun k u hu _ => ?_, hR.size, hR.defers⟩
  · exact Nat.le_trans List.countP_le_length (by simp)
  · have := hm4 (Array.getElem?_eq_some_iff.1 ho).1
    simp only [ho] at this
    exact Nat.eq_of_beq_eq_true this
  · rw [h1] at hu
    exact u.rep_pres hp _ (hR.env k u hu)

/-- A drawn region in which slices do not wait. -/
theorem regAt_lite (hE : TOk P E) (hm : P.follows .mixedOrders = true) {id : Nat} {K : St → Prop} {σ : St} (hd : drawOKL ops = true) (h : evOpsL P E nt σ.objs σ.next ops ops.toList K σ) : RegAt P nt (.region id ops true) K σ := by
  intro w0 G a w hR
  refine wp_mono (Q := Post w0 nt fun e σ' => e = .normal ∧ K σ') (wp_region_any hm (draw_wpAnyL hE nt w0 ops K σ G a w hd h hR)) ?_
  rintro e a' w' ⟨ex, σ', G', rfl, ⟨rfl, hk⟩, hR'⟩
  exact ⟨rfl, σ', G', hk, hR'⟩
end
end Go.Vm

namespace Go.Vm
open Go.RowKit

def delL (O : List (Nat × Ob)) : List Nat → List (Nat × Ob)
  | [] => O
  | k :: r => del (delL O r) k
theorem delL_get {O : List (Nat × Ob)} {x : Nat} {ob : Ob} : ∀ {D : List Nat}, get (delL O D) x = some ob → get O x = some ob
  | [], h => h
  | k :: r, h => by
    by_cases e : x = k
    · subst e; simp only [delL, get_del_same] at h; cases h
    · simp only [delL, get_del_other _ _ _ e] at h; exact delL_get h
/-- What is listed is as it was. -/
def frmL (O' : List (Nat × Ob)) : List (Nat × Ob) → Prop
  | [] => True
  | (k, o) :: r => get O' k = some o ∧ frmL O' r
theorem frmL_get {O' : List (Nat × Ob)} {x : Nat} {ob : Ob} : ∀ {O : List (Nat × Ob)}, frmL O' O → get O x = some ob → get O' x = some ob
  | [], _, h => by cases h
  | (k, o) :: r, hf, h => by
    by_cases e : x = k
    · subst e
      have : get ((x, o) :: r) x = some o := get_cons_same _ _ _
      rw [this] at h
      injection h with h
      rw [← h]; exact hf.1
    · rw [get_cons_other _ _ _ _ e] at h
      exact frmL_get hf.2 h
def evOpsDL (P : Program) (E : Nat → Option TI) (nt : Nat) (O0 : List (Nat × Ob)) (ops : Array Oper) (id : Nat) : List Oper → (St → Prop) → St → Prop
  | [], K, σ => K σ
  | o :: rest, K, σ => scase (dstOk nt o.dst && noG o) (match isLite o.op with
    | true => evOpF P E false (frO false ops o) o.op ⟨σ.env, O0, σ.next⟩ fun v τ => (τ.objs = O0 ∧ τ.next = σ.next) ∧ putK σ o.dst v (evOpsDL P E nt O0 ops id rest K)
    | false => evOpD P E ops id o σ fun v σ' => frmL σ'.objs O0 ∧ putK σ' o.dst v (evOpsDL P E nt O0 ops id rest K)) False

section
variable {P : Program} {E : Nat → Option TI} {nt : Nat} {w0 : Base} {ops : Array Oper} {s : Nat → St} {av : Nat → AV} {id : Nat}
theorem val_lite {o : Oper} (h : isVal o.op = true) : isLite o.op = false := by
  unfold isVal at h
  split at h
  · rename_i e; rw [e]; rfl
  · cases h
theorem lite_val {o : Oper} (h : isLite o.op = true) : isVal o.op = false := by
  cases hv : isVal o.op with
  | false => rfl
  | true => rw [val_lite hv] at h; cases h
structure LiteD (P : Program) (nt : Nat) (ops : Array Oper) (id : Nat) (O0 : List (Nat × Ob)) (s : Nat → St) (av : Nat → AV) : Prop where
  nid : get O0 id = none
  frm : ∀ i, i ≤ ops.size → ∀ x ob, get O0 x = some ob → get (s i).objs x = some ob
  lite : ∀ (i : Nat) o, ops[i]? = some o → isLite o.op = true → (s (i + 1)).next = (s i).next ∧ GoB P nt ops i o ⟨(s i).env, O0, (s i).next⟩ (av i) ⟨(s i).env, O0, (s i).next⟩
theorem slots_atDL (hF : FactsD P nt ops id s av) (hd : DrawOKL ops) {listed : Array Bool} {m : Nat} {c : Ob} {G : Gh} {a : Act} {w : World} (hI : InvD w0 nt ops id s av listed m c G a w) {j : Nat} {o : Oper} (ho : ops[j]? = some o) (hj : j ∈ Region.ready .any ops listed) :
    Slots nt ops o (s j).env (ovr (s m).objs id c) G w a := by
  have hjn : j < ops.size := (Array.getElem?_eq_some_iff.1 ho).1
  have hnj := not_listed hI.size hjn hj
  refine ⟨hI.tmps, fun k hk u hu => ?_⟩
  rcases env_atD hF (Nat.le_of_lt hjn) k u hu with ⟨i, x, h1, h2, h3, rfl⟩ | ⟨h1, h2⟩
  · have hc : conflictL ops x o = true := by simp [conflictL, h3, dstIn, memN_iff.2 hk]
    have := ready_reach hI.closed hj ((hd.pair j i x o h1 h2 ho).2 hc)
    exact ⟨.inl ((hF.fact i x h2).dst k h3), hI.done i x k this h2 h3⟩
  · refine ⟨hF.lt k u h2, hI.kept k u h2 (fun i x hi hx hdx => ?_)⟩
    rcases Nat.lt_or_ge i j with h | h
    · exact h1 i x h hx hdx
    · have hne : i ≠ j := fun e => by subst e; exact hnj hi
      have hc : conflictL ops o x = true := by simp [conflictL, hdx, dstIn, memN_iff.2 hk]
      exact hnj (reach_in hI.closed ((hd.pair i j o x (by omega) ho hx).2 hc) hi)

/-- One operation more. -/
theorem inv_stepDL (hF : FactsD P nt ops id s av) (hd : DrawOKL ops) {listed : Array Bool} {m m' : Nat} {c c' : Ob} {G G' : Gh} {a : Act} {w w' : World} (hI : InvD w0 nt ops id s av listed m c G a w) {j : Nat} {o : Oper} (ho : ops[j]? = some o) (hj : j ∈ Region.ready .any ops listed)
    (hph : Phase ops (listed.setIfInBounds j true) m') (hM : Mem w0 (ovr (s m').objs id c') G' w') (hp : Pres (ovr (s m).objs id c) G w (ovr (s m').objs id c') G' w') {v : Value} (hv : (av j).rep (ovr (s m').objs id c') G' w' v)
    (hA : ∀ x, G'.A x → G.A x ∨ (x < (s 0).next ∨ ∃ i, inS (listed.setIfInBounds j true) i ∧ (s i).next ≤ x ∧ x < (s (i + 1)).next))
    (hcur : ∃ q, q ≤ ops.size ∧ get (s q).objs id = some c' ∧ (∀ (i : Nat) o, i < q → ops[i]? = some o → isVal o.op = true → inS (listed.setIfInBounds j true) i) ∧ ∀ (i : Nat) o, q ≤ i → ops[i]? = some o → isVal o.op = true → ¬ inS (listed.setIfInBounds j true) i) :
    InvD w0 nt ops id s av (listed.setIfInBounds j true) m' c' G' (a.put o.dst v) w' := by
  have hjn : j < ops.size := (Array.getElem?_eq_some_iff.1 ho).1
  have hjl : j < listed.size := by rw [hI.size]; exact hjn
  obtain ⟨_, o', ho', hall⟩ := mem_ready.1 hj
  rw [ho] at ho'
  injection ho' with ho'
  subst ho'
  have hfj := hF.fact j o ho
  have slot : ∀ {k : Nat}, o.dst ≠ some k → (a.put o.dst v).tmps.getD k undef = a.tmps.getD k undef := by
    intro k hk
    cases hdo : o.dst with
    | none => rfl
    | some d => exact getD_put_other (fun e => hk (by rw [hdo, e]))
  refine ⟨by simp [hI.size], fun i x e hi hx he hb => ?_, hph, hM, fun x hx => ?_, fun i x k hi hx hk => ?_, fun k u hu hno => ?_, hcur, ?_, ?_⟩
  · rcases inS_set hi with hi | rfl
    · exact inS_set_mono (hI.closed i x e hi hx he hb)
    · rw [ho] at hx
      injection hx with hx
      subst hx
      exact inS_set_mono (hall e he hb)
  · rcases hA x hx with h | h
    · rcases hI.laid x h with h | ⟨i, h1, h2⟩
      · exact .inl h
      · exact .inr ⟨i, inS_set_mono h1, h2⟩
    · exact h
  · by_cases e : i = j
    · subst e
      rw [ho] at hx
      injection hx with hx
      subst hx
      rw [hk, getD_put_same (by rw [hI.tmps]; exact hfj.dst k hk)]
      exact hv
    · have hi' : inS listed i := (inS_set hi).resolve_right e
      have hne : o.dst ≠ some k := by
        intro hok
        rcases Nat.lt_or_ge i j with h | h
        · exact (hd.pair j i x o h hx ho).1 k hk hok
        · exact (hd.pair i j o x (by omega) ho hx).1 k hok hk
      rw [slot hne]
      exact (av i).rep_pres hp _ (hI.done i x k hi' hx hk)
  · have hne : o.dst ≠ some k := hno j o (getD_set_same hjl) ho
    rw [slot hne]
    exact u.rep_pres hp _ (hI.kept k u hu (fun i x hi hx => hno i x (inS_set_mono hi) hx))
  · rw [← hI.tmps]
    cases o.dst <;> simp [Act.put]
  · rw [← hI.defers]
    cases o.dst <;> rfl

theorem conflictL_val {x y : Oper} (hx : isVal x.op = true) (hy : isVal y.op = true) : conflictL ops x y = true := by unfold conflictL; rw [hx, hy]; rfl

/-- The box's cells ahead of an operation that is ordered against all calls. -/
theorem cur_atL (hF : FactsD P nt ops id s av) (hd : DrawOKL ops) {listed : Array Bool} {m : Nat} {c : Ob} {G : Gh} {a : Act} {w : World} (hI : InvD w0 nt ops id s av listed m c G a w) {j : Nat} {o : Oper} (ho : ops[j]? = some o) (hj : j ∈ Region.ready .any ops listed)
    (hcf : ∀ x, isVal x.op = true → conflictL ops x o = true ∧ conflictL ops o x = true) : get (s j).objs id = some c ∧ (∀ (i : Nat) x, i < j → ops[i]? = some x → isVal x.op = true → inS listed i) ∧ ∀ (i : Nat) x, j ≤ i → ops[i]? = some x → isVal x.op = true → ¬ inS listed i := by
  have hjn : j < ops.size := (Array.getElem?_eq_some_iff.1 ho).1
  have hnj := not_listed hI.size hjn hj
  have before : ∀ (i : Nat) x, i < j → ops[i]? = some x → isVal x.op = true → inS listed i := fun i x hi hx hv => ready_reach hI.closed hj ((hd.pair j i x o hi hx ho).2 (hcf x hv).1)
  have after : ∀ (i : Nat) x, j ≤ i → ops[i]? = some x → isVal x.op = true → ¬ inS listed i := fun i x hi hx hv hin => by
    rcases Nat.lt_or_ge j i with h | h
    · exact hnj (reach_in hI.closed ((hd.pair i j o x h ho hx).2 (hcf x hv).2) hin)
    · have : i = j := by omega
      subst this
      exact hnj hin
  obtain ⟨q, hq1, hq2, hq3, hq4⟩ := hI.cur
  refine ⟨?_, before, after⟩
  rcases Nat.lt_or_ge j q with h | h
  · rw [← hq2]
    refine (box_const hF (Nat.le_of_lt h) hq1 (fun k x h1 h2 hx => ?_)).symm
    cases hv : isVal x.op with
    | false => rfl
    | true => exact absurd (hq3 k x h2 hx hv) (after k x h1 hx hv)
  · rw [← hq2]
    refine box_const hF h (Nat.le_of_lt hjn) (fun k x h1 h2 hx => ?_)
    cases hv : isVal x.op with
    | false => rfl
    | true => exact absurd (before k x h2 hx hv) (hq4 k x h1 hx hv)

theorem draw_anyDL (hF : FactsD P nt ops id s av) {O0 : List (Nat × Ob)} (hL : LiteD P nt ops id O0 s av) (hd : DrawOKL ops) {Q : Exit → Act → World → Prop} (hQ : ∀ G a w, Rel w0 (s ops.size) G nt a w → Q .normal a w) :
    ∀ (fuel : Nat) (listed : Array Bool) (m : Nat) (c : Ob) (G : Gh) (a : Act) (w : World), (List.range ops.size).countP (fun i => !listed.getD i false) ≤ fuel → InvD w0 nt ops id s av listed m c G a w → wpAny P .any ops Q fuel listed a w := by
  have fin : ∀ (listed : Array Bool) (m : Nat) (c : Ob) (G : Gh) (a : Act) (w : World), InvD w0 nt ops id s av listed m c G a w → Region.ready .any ops listed = [] → Q .normal a w := by
    intro listed m c G a w hI hr
    have all : ∀ i, i < ops.size → inS listed i := by
      intro i
      induction i using Nat.strongRecOn with
      | ind i ih =>
        intro hi
        by_cases h : inS listed i
        · exact h
        · exfalso
          have : i ∈ Region.ready .any ops listed := mem_ready.2 ⟨by
            unfold inS at h
            rw [Array.getD_eq_getD_getElem?] at h ⊢
            rw [Array.getElem?_eq_getElem (by rw [hI.size]; exact hi)] at h ⊢
            simpa using h, ops[i], by simp, fun e he hb => by
              have hlt := hd.back i ops[i] e (by simp) he hb
              exact ih e.on hlt (by omega)⟩
          rw [hr] at this
          cases this
    have hm : m = ops.size := by
      rcases Nat.lt_or_ge m ops.size with h | h
      · exact absurd (all m h) (hI.ph.new ops[m] (by simp)).2
      · have := hI.ph.le; omega
    have hm' := hm
    subst hm
    obtain ⟨q, hq1, hq2, _, hq4⟩ := hI.cur
    have hc : get (s ops.size).objs id = some c := by
      rw [← hq2]
      refine box_const hF hq1 (Nat.le_refl _) (fun k x h1 h2 hx => ?_)
      cases hv : isVal x.op with
      | false => rfl
      | true => exact absurd (all k h2) (hq4 k x h1 hx hv)
    have hlaid : ∀ j, G.A j → j < (s ops.size).next := fun j hj => by
      rcases hI.laid j hj with h | ⟨i, h1, h2, h3⟩
      · exact Nat.lt_of_lt_of_le h (next_monoD hF (Nat.zero_le _) (Nat.le_refl _))
      · have hi := inS_lt h1
        rw [hI.size] at hi
        exact Nat.lt_of_lt_of_le h3 (next_monoD hF (by omega) (Nat.le_refl _))
    obtain ⟨hM2, hp2⟩ := mem_later hI.mem hlaid (fun x _ => (ovr_eq hc x).symm)
    refine hQ G a w ⟨hM2, fun k u hu => ?_, fun k u hu => ?_, hI.tmps, hlaid, wf_allD hF (Nat.le_refl _), hI.defers⟩
    · rcases env_atD hF (Nat.le_refl _) k u hu with ⟨i, x, h1, h2, h3, rfl⟩ | ⟨h1, h2⟩
      · exact (av i).rep_pres hp2 _ (hI.done i x k (all i h1) h2 h3)
      · exact u.rep_pres hp2 _ (hI.kept k u h2 (fun i x hi hx => h1 i x (Array.getElem?_eq_some_iff.1 hx).1 hx))
    · rcases env_atD hF (Nat.le_refl _) k u hu with ⟨i, x, h1, h2, h3, rfl⟩ | ⟨h1, h2⟩
      · exact .inl ((hF.fact i x h2).dst k h3)
      · exact hF.lt k u h2
  intro fuel
  induction fuel with
  | zero =>
    intro listed m c G a w hcn hI
    have hr : Region.ready .any ops listed = [] := by
      refine List.eq_nil_iff_forall_not_mem.2 (fun j hj => ?_)
      obtain ⟨h1, o, h2, _⟩ := mem_ready.1 hj
      have hjn : j < ops.size := (Array.getElem?_eq_some_iff.1 h2).1
      have h0 : (List.range ops.size).countP (fun i => !listed.getD i false) = 0 := by omega
      have := List.countP_eq_zero.1 h0 j (by simp [hjn])
      rw [Array.getD_eq_getD_getElem?] at h1 this
      rw [Array.getElem?_eq_getElem (by rw [hI.size]; exact hjn)] at h1 this
      simp at h1 this
      rw [h1] at this
      cases this
    exact ⟨hr, fin listed m c G a w hI hr⟩
  | succ fuel ih =>
    intro listed m c G a w hcn hI
    refine ⟨fin listed m c G a w hI, fun j hj => ?_⟩
    obtain ⟨hun, o, ho, _⟩ := mem_ready.1 hj
    have hjn : j < ops.size := (Array.getElem?_eq_some_iff.1 ho).1
    have hjl : j < listed.size := by rw [hI.size]; exact hjn
    have hnj := not_listed hI.size hjn hj
    have hcnt : (List.range ops.size).countP (fun i => !(listed.setIfInBounds j true).getD i false) ≤ fuel := by
      have := countP_lt (p := fun i => !listed.getD i false) (q := fun i => !(listed.setIfInBounds j true).getD i false) (l := List.range ops.size) (x := j) (fun y _ hy => by
        by_cases h : inS listed y
        · have := inS_set_mono (i := j) h
          unfold inS at this
          rw [this] at hy
          cases hy
        · unfold inS at h
          cases hb : listed.getD y false with
          | true => exact absurd hb h
          | false => rfl) (by simp [hjn]) (by unfold inS at hnj; cases hb : listed.getD j false with | true => exact absurd hb hnj | false => rfl)
          (by have := getD_set_same hjl; unfold inS at this; simp [this])
      omega
    have hf := hF.fact j o ho
    have hsl := slots_atDL hF hd hI ho hj
    have same : clsO ops o ≠ 2 → Phase ops (listed.setIfInBounds j true) m := fun h2 => ⟨hI.ph.le, fun i x hi hx hcx => inS_set_mono (hI.ph.old i x hi hx hcx), fun x hx => by
      obtain ⟨h3, h4⟩ := hI.ph.new x hx
      refine ⟨h3, fun h5 => ?_⟩
      rcases inS_set h5 with h5 | rfl
      · exact h4 h5
      · rw [ho] at hx; injection hx with hx; subst hx; exact h2 h3⟩
    -- the box where the operation is no call
    have curN : isVal o.op = false → ∃ q, q ≤ ops.size ∧ get (s q).objs id = some c ∧ (∀ (i : Nat) o, i < q → ops[i]? = some o → isVal o.op = true → inS (listed.setIfInBounds j true) i) ∧ ∀ (i : Nat) o, q ≤ i → ops[i]? = some o → isVal o.op = true → ¬ inS (listed.setIfInBounds j true) i := fun hv => by
      obtain ⟨q, h1, h2, h3, h4⟩ := hI.cur
      refine ⟨q, h1, h2, fun i x hi hx hvx => inS_set_mono (h3 i x hi hx hvx), fun i x hi hx hvx hin => ?_⟩
      rcases inS_set hin with h5 | rfl
      · exact h4 i x hi hx hvx h5
      · rw [ho] at hx; injection hx with hx; subst hx; rw [hv] at hvx; cases hvx
    have curV : isVal o.op = true → ∀ c', get (s (j + 1)).objs id = some c' → ∃ q, q ≤ ops.size ∧ get (s q).objs id = some c' ∧ (∀ (i : Nat) o, i < q → ops[i]? = some o → isVal o.op = true → inS (listed.setIfInBounds j true) i) ∧ ∀ (i : Nat) o, q ≤ i → ops[i]? = some o → isVal o.op = true → ¬ inS (listed.setIfInBounds j true) i := fun hv c' hc' => by
      obtain ⟨_, h3, h4⟩ := cur_atL hF hd hI ho hj (fun x hx => ⟨conflictL_val hx hv, conflictL_val hv hx⟩)
      refine ⟨j + 1, hjn, hc', fun i x hi hx hvx => ?_, fun i x hi hx hvx hin => ?_⟩
      · rcases Nat.lt_or_ge i j with h | h
        · exact inS_set_mono (h3 i x h hx hvx)
        · have : i = j := by omega
          subst this
          exact getD_set_same hjl
      · rcases inS_set hin with h5 | h5
        · exact h4 i x (by omega) hx hvx h5
        · omega
    rcases clsO_le ops o with h0 | h1 | h2
    · obtain ⟨_, hg⟩ := hf.a h0
      have hv : isVal o.op = false := by
        cases hv : isVal o.op with
        | false => rfl
        | true => rw [clsO_val hv] at h0; cases h0
      refine hg _ G w a _ Q hsl (fun u hu => ih _ m c G _ w hcnt (inv_stepDL hF hd hI ho hj (same (by omega)) hI.mem Pres.refl hu (fun x hx => .inl hx) (curN hv)))
    · cases hlo : isLite o.op with
      | true =>
        obtain ⟨hnx, hg⟩ := hL.lite j o ho hlo
        refine hg w0 (ovr (s m).objs id c) G w a _ Q (fun x ob hob => ?_) hI.mem hsl (fun x hx1 hx2 => absurd hx1 (Nat.not_le_of_lt hx2)) (fun G' u w' hM' hp hu hA => ih _ m c G' _ w' hcnt (inv_stepDL hF hd hI ho hj (same (by omega)) hM' hp hu (fun x hx => (hA x hx).imp_right (fun h => absurd h.1 (Nat.not_le_of_lt h.2))) (curN (lite_val hlo))))
        have hne : x ≠ id := fun e => by rw [e, hL.nid] at hob; cases hob
        rw [ovr_other _ _ _ hne]
        exact hL.frm m hI.ph.le x ob hob
      | false =>
        have hjm : j < m := by
          rcases Nat.lt_or_ge j m with h | h
          · exact h
          · exfalso
            have hmn : m < ops.size := by omega
            obtain ⟨h3, h4⟩ := hI.ph.new ops[m] (by simp)
            have hne : m ≠ j := fun e => by
              subst e
              rw [Array.getElem?_eq_getElem hmn] at ho
              injection ho with ho
              rw [ho] at h3
              omega
            exact h4 (ready_reach hI.closed hj ((hd.pair j m ops[m] o (by omega) (by simp) ho).2 (conflictL_me (lite_cls h3) (by first | exact hlo | exact lite_cls h2) (.inl ⟨h3, by omega⟩))))
        have hext := objs_extD hF (i := j + 1) (j := m) (by omega) hI.ph.le (fun k x hk1 hk2 hx hcx => by
          have hk := hI.ph.old k x hk2 hx hcx
          exact hnj (reach_in hI.closed ((hd.pair k j o x (by omega) ho hx).2 (conflictL_me (by first | exact hlo | exact lite_cls h2) (lite_cls hcx) (.inr ⟨hcx, by omega⟩))) hk))
        have hobj : ∀ x ob, x ≠ id → get (s (j + 1)).objs x = some ob → get (ovr (s m).objs id c) x = some ob := fun x ob hne hob => by
          rw [ovr_other _ _ _ hne, hext x (hf.wf x ob hob) hne]; exact hob
        have hfresh : ∀ x, (s j).next ≤ x → x < (s (j + 1)).next → ¬ G.A x := fun x hx1 hx2 hA => by
          rcases hI.laid x hA with h | ⟨i, h3, h4, h5⟩
          · have := next_monoD hF (Nat.zero_le j) (Nat.le_of_lt hjn)
            omega
          · have hil := inS_lt h3
            rw [hI.size] at hil
            rcases Nat.lt_trichotomy i j with h | h | h
            · have := next_monoD hF (show i + 1 ≤ j from h) (Nat.le_of_lt hjn)
              omega
            · subst h; exact hnj h3
            · have := next_monoD hF (show j + 1 ≤ i from h) (Nat.le_of_lt hil)
              omega
        rcases hf.b h1 with ⟨hkeep, hg⟩ | ⟨hv, hg⟩
        · refine hg w0 (ovr (s m).objs id c) G w a _ Q hobj hI.mem hsl hfresh (fun G' u w' hM' hp hu hA => ih _ m c G' _ w' hcnt (inv_stepDL hF hd hI ho hj (same (by omega)) hM' hp hu (fun x hx => (hA x hx).imp_right (fun h => .inr ⟨j, getD_set_same hjl, h⟩)) ?_))
          cases hv : isVal o.op with
          | false => exact curN hv
          | true =>
            refine curV hv c ?_
            rw [hkeep]
            exact (cur_atL hF hd hI ho hj (fun x hx => ⟨conflictL_val hx hv, conflictL_val hv hx⟩)).1
        · obtain ⟨hcj, _, _⟩ := cur_atL hF hd hI ho hj (fun x hx => ⟨conflictL_val hx hv, conflictL_val hv hx⟩)
          obtain ⟨c', hc'⟩ := has_box hF (show j + 1 ≤ ops.size from hjn)
          refine hg w0 (ovr (s m).objs id c) (ovr (s m).objs id c') G w a _ Q hobj (by rw [ovr_same, hcj]) (fun x hne => by rw [ovr_other _ _ _ hne, ovr_other _ _ _ hne]) (by rw [ovr_same, hc']) hI.mem hsl hfresh
            (fun G' u w' hM' hp hu hA => ih _ m c' G' _ w' hcnt (inv_stepDL hF hd hI ho hj (same (by omega)) hM' hp hu (fun x hx => (hA x hx).imp_right (fun h => .inr ⟨j, getD_set_same hjl, h⟩)) (curV hv c' hc')))
    · have hv : isVal o.op = false := by
        cases hv : isVal o.op with
        | false => rfl
        | true => rw [clsO_val hv] at h2; cases h2
      have hjm : j = m := by
        rcases Nat.lt_trichotomy j m with h | h | h
        · exact absurd (hI.ph.old j o h ho h2) hnj
        · exact h
        · exfalso
          have hmn : m < ops.size := by omega
          obtain ⟨h3, h4⟩ := hI.ph.new ops[m] (by simp)
          exact h4 (ready_reach hI.closed hj ((hd.pair j m ops[m] o h (by simp) ho).2 (conflictL_me (lite_cls h3) (by first | exact hlo | exact lite_cls h2) (.inl ⟨h3, by omega⟩))))
      subst hjm
      have hlt : ∀ x, G.A x → x < (s j).next := by
        intro x hA
        rcases hI.laid x hA with h | ⟨i, h3, h4, h5⟩
        · exact Nat.lt_of_lt_of_le h (next_monoD hF (Nat.zero_le j) (Nat.le_of_lt hjn))
        · have hil := inS_lt h3
          rw [hI.size] at hil
          rcases Nat.lt_trichotomy i j with h | h | h
          · exact Nat.lt_of_lt_of_le h5 (next_monoD hF h (Nat.le_of_lt hjn))
          · subst h; exact absurd h3 hnj
          · exfalso
            have hx : ops[i]? = some ops[i] := by simp
            by_cases hci : clsO ops (ops[i]) = 0
            · have := ((hF.fact i _ hx).a hci).1
              omega
            · cases hli : isLite (ops[i]).op with
              | true => have := (hL.lite i _ hx hli).1; omega
              | false => exact hnj (reach_in hI.closed ((hd.pair i j o ops[i] h ho hx).2 (conflictL_me (lite_cls h2) hli (.inl ⟨h2, hci⟩))) h3)
      have hcf : ∀ x, isVal x.op = true → conflictL ops x o = true ∧ conflictL ops o x = true := fun x hx => by
        have h1 := clsO_val (ops := ops) hx
        exact ⟨conflictL_me (val_lite hx) (lite_cls h2) (.inr ⟨h2, by omega⟩), conflictL_me (lite_cls h2) (val_lite hx) (.inl ⟨h2, by omega⟩)⟩
      obtain ⟨hcj, _, _⟩ := cur_atL hF hd hI ho hj hcf
      obtain ⟨hM1, hp1⟩ := mem_later hI.mem hlt (fun x _ => (ovr_eq hcj x).symm)
      have hsl1 : Slots nt ops o (s j).env (s j).objs G w a := ⟨hsl.1, fun k hk u hu => ⟨(hsl.2 k hk u hu).1, u.rep_pres hp1 _ (hsl.2 k hk u hu).2⟩⟩
      obtain ⟨m', hm1, hm2, hm3, hm4⟩ := phase_next (ops.size - (j + 1)) ops.size (j + 1) rfl (by omega) (fun i => match ops[i]? with | some x => Nat.beq (clsO ops x) 2 | none => false)
      have hno : ∀ (k : Nat) x, j + 1 ≤ k → k < m' → ops[k]? = some x → clsO ops x ≠ 2 := by
        intro k x h1 h2 h3 h4
        have := hm3 k h1 h2
        simp [h3, h4] at this
      have hext := objs_extD hF (i := j + 1) (j := m') hm1 hm2 hno
      have hph : Phase ops (listed.setIfInBounds j true) m' := by
        refine ⟨hm2, fun i x hi hx hcx => ?_, fun x hx => ?_⟩
        · rcases Nat.lt_trichotomy i j with h | h | h
          · exact inS_set_mono (hI.ph.old i x h hx hcx)
          · subst h; exact getD_set_same hjl
          · exact absurd hcx (hno i x h hi hx)
        · have hlt' : m' < ops.size := (Array.getElem?_eq_some_iff.1 hx).1
          have hc2 := hm4 hlt'
          simp only [hx] at hc2
          have hc2 := Nat.eq_of_beq_eq_true hc2
          refine ⟨hc2, fun h => ?_⟩
          rcases inS_set h with h | rfl
          · exact hnj (reach_in hI.closed ((hd.pair m' j o x (by omega) ho hx).2 (conflictL_me (lite_cls h2) (lite_cls hc2) (.inl ⟨h2, by omega⟩))) h)
          · omega
      have hcj1 : get (s (j + 1)).objs id = some c := by rw [hf.keep hv]; exact hcj
      refine hf.e h2 w0 G w a _ Q hM1 hsl1 hlt (fun G' u w' hM' hp hu hA => ?_)
      obtain ⟨hM2, hp2⟩ := mem_later (O' := ovr (s m').objs id c) hM' hA (fun x hx => by
        by_cases e : x = id
        · subst e; rw [ovr_same, hcj1]
        · rw [ovr_other _ _ _ e]; exact hext x hx e)
      refine ih _ m' c G' _ w' hcnt (inv_stepDL hF hd hI ho hj hph hM2 (hp1.trans (hp.trans hp2)) ((av j).rep_pres hp2 _ hu) (fun x hx => ?_) (curN hv))
      right
      by_cases h0 : x < (s 0).next
      · exact .inl h0
      · obtain ⟨i, h3, h4, h5⟩ := range_of (s := s) (j + 1) x (by omega) (hA x hx)
        refine .inr ⟨i, ?_, h4, h5⟩
        rcases Nat.lt_or_ge i j with h | h
        · have hx' : ops[i]? = some ops[i] := by simp
          cases hli : isLite (ops[i]).op with
          | true => have := (hL.lite i _ hx' hli).1; omega
          | false =>
            refine inS_set_mono (ready_reach hI.closed hj ((hd.pair j i ops[i] o h hx' ho).2 (conflictL_me hli (lite_cls h2) (.inr ⟨h2, fun hci => ?_⟩))))
            have := ((hF.fact i _ hx').a hci).1
            omega
        · have : i = j := by omega
          subst this
          exact getD_set_same hjl

theorem evOpsDL_trace (hE : TOk P E) {K : St → Prop} {O0 : List (Nat × Ob)} (hnid : get O0 id = none) : ∀ (l : List Oper) (p : Nat) (σ : St), (∀ i o, l[i]? = some o → ops[p + i]? = some o) → σ.wf → (∀ x ob, get O0 x = some ob → get σ.objs x = some ob) → evOpsDL P E nt O0 ops id l K σ →
    ∃ (s : Nat → St) (av : Nat → AV), s p = σ ∧ (∀ i o, l[i]? = some o → FactD P nt ops (p + i) o id (s (p + i)) (av (p + i)) (s (p + i + 1))) ∧ K (s (p + l.length)) ∧
      (∀ i o, l[i]? = some o → (∀ x ob, get O0 x = some ob → get (s (p + i + 1)).objs x = some ob) ∧ (isLite o.op = true → (s (p + i + 1)).next = (s (p + i)).next ∧ GoB P nt ops (p + i) o ⟨(s (p + i)).env, O0, (s (p + i)).next⟩ (av (p + i)) ⟨(s (p + i)).env, O0, (s (p + i)).next⟩))
  | [], p, σ, _, _, _, h => ⟨fun _ => σ, fun _ => .junk, rfl, by simp, h, by simp⟩
  | o :: rest, p, σ, hl, hw, hO, h => by
    have hi : ops[p]? = some o := by simpa using hl 0 o (by simp)
    simp only [evOpsDL, putK_eq] at h
    rcases scase_out h with ⟨hd0, h⟩ | ⟨_, h⟩
    case inr => exact h.elim
    simp only [Bool.and_eq_true] at hd0
    obtain ⟨hd, hgg⟩ := hd0
    have hg : o.guard = none := by unfold noG at hgg; split at hgg <;> first | assumption | cases hgg
    have next : ∀ {v : AV} {σ' : St}, FactD P nt ops p o id σ v σ' → (∀ x ob, get O0 x = some ob → get σ'.objs x = some ob) → (isLite o.op = true → σ'.next = σ.next ∧ GoB P nt ops p o ⟨σ.env, O0, σ.next⟩ v ⟨σ.env, O0, σ.next⟩) → evOpsDL P E nt O0 ops id rest K σ' → ∃ (s : Nat → St) (av : Nat → AV), s p = σ ∧ (∀ i q, (o :: rest)[i]? = some q → FactD P nt ops (p + i) q id (s (p + i)) (av (p + i)) (s (p + i + 1))) ∧ K (s (p + (o :: rest).length)) ∧
        (∀ i q, (o :: rest)[i]? = some q → (∀ x ob, get O0 x = some ob → get (s (p + i + 1)).objs x = some ob) ∧ (isLite q.op = true → (s (p + i + 1)).next = (s (p + i)).next ∧ GoB P nt ops (p + i) q ⟨(s (p + i)).env, O0, (s (p + i)).next⟩ (av (p + i)) ⟨(s (p + i)).env, O0, (s (p + i)).next⟩)) := by
      intro v σ' hf hfr' hlt h
      obtain ⟨s, av, h1, h2, h3, h4⟩ := evOpsDL_trace hE hnid rest (p + 1) σ' (fun i q hq => by
        have := hl (i + 1) q (by simpa using hq)
        rw [show p + 1 + i = p + (i + 1) by omega]; exact this) hf.wf hfr' h
      refine ⟨fun i => if i = p then σ else s i, fun i => if i = p then v else av i, by simp, fun i q hq => ?_, ?_, fun i q hq => ?_⟩
      · cases i with
        | zero =>
          simp at hq
          subst hq
          simpa [h1] using hf
        | succ i =>
          have := h2 i q (by simpa using hq)
          rw [show p + 1 + i = p + (i + 1) by omega] at this
          have e1 : p + (i + 1) ≠ p := by omega
          have e2 : p + (i + 1) + 1 ≠ p := by omega
          simp only [e1, e2, if_false]
          exact this
      · have e1 : p + (rest.length + 1) ≠ p := by omega
        simp only [List.length_cons, e1, if_false]
        rw [show p + (rest.length + 1) = p + 1 + rest.length by omega]
        exact h3
      · cases i with
        | zero =>
          simp at hq
          subst hq
          have e2 : p + 1 ≠ p := by omega
          simp only [Nat.add_zero, e2, if_false, if_true, h1]
          exact ⟨hfr', hlt⟩
        | succ i =>
          have := h4 i q (by simpa using hq)
          rw [show p + 1 + i = p + (i + 1) by omega] at this
          have e1 : p + (i + 1) ≠ p := by omega
          have e2 : p + (i + 1) + 1 ≠ p := by omega
          simp only [e1, e2, if_false]
          exact this
    split at h
    · rename_i hlo
      have hwτ : St.wf ⟨σ.env, O0, σ.next⟩ := fun x ob hx => hw x ob (hO x ob hx)
      obtain ⟨v, τ, ⟨⟨ho1, ho2⟩, hk⟩, hf⟩ := fact_run (nt := nt) (σ := ⟨σ.env, O0, σ.next⟩) (τ := ⟨σ.env, O0, σ.next⟩) hE hi hwτ hd (fun _ _ h => h) rfl rfl (fun O G w a _ => by simp [Region.wanted, hg]) h
      have hgb : GoB P nt ops p o ⟨σ.env, O0, σ.next⟩ v ⟨σ.env, O0, σ.next⟩ := by
        have h5 := hf.b (lite_clsO hlo)
        obtain ⟨q1, q2, _⟩ := put_st τ o.dst v
        unfold GoB at h5 ⊢
        rw [q1, q2, ho1, ho2] at h5
        exact h5
      obtain ⟨p1, p2, p3⟩ := put_st σ o.dst v
      refine next (v := v) (σ' := σ.put o.dst v) ⟨hi, hf.dst, (by rw [p2]; exact Nat.le_refl _), p3 hw, put_env (fun _ _ h => h) rfl, (fun h0 => (by rw [p1]; exact h0)), (fun _ x _ _ => (by rw [p1])), (fun _ => (by rw [p1])), (fun h0 => (by rw [lite_clsO hlo] at h0; cases h0)), (fun _ => Or.inl ⟨(by rw [p1]), ?_⟩), (fun h0 => (by rw [lite_clsO hlo] at h0; cases h0))⟩ (by rw [p1]; exact hO) (fun _ => ⟨p2, hgb⟩) hk
      intro w0 O G w a Kc Q hsub hM hs hfr2 hK
      rw [p1] at hsub
      rw [p2] at hfr2 hK
      exact hgb w0 O G w a Kc Q (fun x ob hob => hsub x ob (fun e => by rw [e, hnid] at hob; cases hob) (hO x ob hob)) hM hs hfr2 hK
    · rename_i hlo
      have fin : ∀ {v : AV} {σ' : St}, frmL σ'.objs O0 → FactD P nt ops p o id σ v (σ'.put o.dst v) → evOpsDL P E nt O0 ops id rest K (σ'.put o.dst v) → ∃ (s : Nat → St) (av : Nat → AV), s p = σ ∧ (∀ i q, (o :: rest)[i]? = some q → FactD P nt ops (p + i) q id (s (p + i)) (av (p + i)) (s (p + i + 1))) ∧ K (s (p + (o :: rest).length)) ∧
        (∀ i q, (o :: rest)[i]? = some q → (∀ x ob, get O0 x = some ob → get (s (p + i + 1)).objs x = some ob) ∧ (isLite q.op = true → (s (p + i + 1)).next = (s (p + i)).next ∧ GoB P nt ops (p + i) q ⟨(s (p + i)).env, O0, (s (p + i)).next⟩ (av (p + i)) ⟨(s (p + i)).env, O0, (s (p + i)).next⟩)) := by
        intro v σ' hfo hf hk
        obtain ⟨p1, _, _⟩ := put_st σ' o.dst v
        exact next hf (fun x ob hob => by rw [p1]; exact frmL_get hfo hob) (fun h0 => by rw [hlo] at h0; cases h0) hk
      unfold evOpD at h
      split at h
      · rename_i hv
        rcases h with h | h
        · obtain ⟨av, σ', ⟨hfo, hk⟩, hf⟩ := curO_fact (nt := nt) hE hi hw hd hg hv h
          exact fin hfo hf hk
        · obtain ⟨av, σ', ⟨hfo, hk⟩, hf⟩ := hidO_fact (nt := nt) hE hi hw hd hg (by rw [clsO_val hv]; decide) h
          exact fin hfo hf hk
      · rename_i hv
        split at h
        · rename_i hb
          have hc2 := Nat.eq_of_beq_eq_true hb
          obtain ⟨av, σ', ⟨hkeep, hfo, hk⟩, hf⟩ := fact_run (nt := nt) hE hi hw hd (fun _ _ h => h) rfl rfl (fun O G w a _ => by simp [Region.wanted, hg]) h
          obtain ⟨p1, p2, p3⟩ := put_st σ' o.dst av
          exact fin hfo ⟨hf.op, hf.dst, hf.next, hf.wf, hf.env, fun ⟨c, hc⟩ => ⟨c, by rw [p1, hkeep]; exact hc⟩, fun hc => absurd hc2 hc, fun _ => by rw [p1]; exact hkeep, (fun hc => by omega), (fun hc => by omega), hf.e⟩ hk
        · rename_i hb
          obtain ⟨av, σ', ⟨hfo, hk⟩, hf⟩ := hidO_fact (nt := nt) hE hi hw hd hg (fun e => by rw [e] at hb; cases hb) h
          exact fin hfo hf hk

/-- THE DRAWN REGION, with calls that are given a pointer to a box. -/
theorem draw_soundDL (hE : TOk P E) (hm : P.follows .mixedOrders = true) (nt : Nat) (w0 : Base) (rid : Nat) (ops : Array Oper) (id : Nat) (K : St → Prop) (σ : St) (G : Gh) (a : Act) (w : World) (O0 : List (Nat × Ob)) (hnid : get O0 id = none) (hO : ∀ x ob, get O0 x = some ob → get σ.objs x = some ob) (hok : drawOKL ops = true) (hbox : ∃ c, get σ.objs id = some c)
    (h : evOpsDL P E nt O0 ops id ops.toList K σ) (hR : Rel w0 σ G nt a w) : (Code.region rid ops true).wp P (Post w0 nt fun e σ' => e = .normal ∧ K σ') a w := by
  obtain ⟨s, av, h1, h2, h3, h4⟩ := evOpsDL_trace hE hnid ops.toList 0 σ (fun i o hi => by simpa using hi) hR.wf hO h
  have hF : FactsD P nt ops id s av := ⟨fun i o ho => by have := h2 i o (by simpa using ho); simpa using this, by rw [h1]; exact hR.wf, by rw [h1]; exact hR.lt, by rw [h1]; exact hbox⟩
  have hL : LiteD P nt ops id O0 s av := ⟨hnid, fun i hi x ob hob => by
      cases i with
      | zero => rw [h1]; exact hO x ob hob
      | succ i => have := (h4 i ops[i] (by simp)).1 x ob hob; simpa using this, fun i o ho hl => by
      have := (h4 i o (by simpa using ho)).2 hl
      simpa using this⟩
  have hd := drawOKL_spec hok
  simp only [Array.length_toList, Nat.zero_add] at h3
  refine wp_region_any hm ?_
  have no : ∀ i, ¬ inS (Array.replicate ops.size false) i := fun i h => by
    unfold inS at h
    rw [Array.getD_eq_getD_getElem?, Array.getElem?_replicate] at h
    split at h <;> simp at h
  obtain ⟨m, _, hm2, hm3, hm4⟩ := phase_next (ops.size - 0) ops.size 0 rfl (by omega) (fun i => match ops[i]? with | some x => Nat.beq (clsO ops x) 2 | none => false)
  have hno : ∀ (k : Nat) x, 0 ≤ k → k < m → ops[k]? = some x → clsO ops x ≠ 2 := by
    intro k x h1 h2 h3 h4
    have := hm3 k h1 h2
    simp [h3, h4] at this
  have hM0 : Mem w0 σ.objs G { w with drawn := w.drawn + 1 } ∧ Pres σ.objs G w σ.objs G { w with drawn := w.drawn + 1 } :=
    hR.mem.step (fun id => Lv σ.objs G id) (fun _ => False) (fun id h => ⟨h, rfl⟩) ⟨rfl, rfl⟩ (fun id h => ⟨h, rfl, rfl, rfl⟩) (fun id h => .inl h) rfl rfl rfl (Nat.le_refl _) (fun b _ _ => rfl)
      (fun _ h => h.elim) (fun _ _ h => h.elim) (fun _ h => h.elim) (fun _ h => h.elim) (fun _ _ h => h.elim)
  have hlt : ∀ j, G.A j → j < (s 0).next := fun j hj => by rw [h1]; exact hR.fresh j hj
  obtain ⟨c, hc⟩ := hbox
  obtain ⟨hM1, hp1⟩ := mem_later (O' := ovr (s m).objs id c) hM0.1 hR.fresh (fun x hx => by
    by_cases e : x = id
    · subst e; rw [ovr_same, hc]
    · rw [ovr_other _ _ _ e, objs_extD hF (Nat.zero_le m) hm2 hno x (by rw [h1]; exact hx) e, h1])
  have hp := hM0.2.trans hp1
  refine draw_anyDL (w0 := w0) hF hL hd (fun G' a' w' hR' => ⟨.normal, s ops.size, G', rfl, ⟨rfl, h3⟩, hR'⟩) ops.size _ m c G a _ ?_ ⟨by simp, fun i o e hi => absurd hi (no i), ⟨hm2, fun i o hi ho hc => absurd hc (hno i o (Nat.zero_le _) hi ho), fun o ho => ⟨?_, no m⟩⟩, hM1, fun j hj => .inl (hlt j hj), fun i o k hi => absurd hi (no i), fun k u hu _ => ?_, ⟨0, Nat.zero_le _, by rw [h1]; exact hc, fun i o hi => by omega, fun i o _ _ _ => no i⟩, hR.size, hR.defers⟩
  · exact Nat.le_trans List.countP_le_length (by simp)
  · have := hm4 (Array.getElem?_eq_some_iff.1 ho).1
    simp only [ho] at this
    exact Nat.eq_of_beq_eq_true this
  · rw [h1] at hu
    exact u.rep_pres hp _ (hR.env k u hu)


/-- A drawn region with calls that are given a pointer to a box; the objects D may change, the others stay. -/
theorem regAt_liteD (hE : TOk P E) (hm : P.follows .mixedOrders = true) {rid : Nat} {K : St → Prop} {σ : St} (id : Nat) (D : List Nat) (hd : drawOKL ops = true) (hbox : ∃ c, get σ.objs id = some c) (hn : get (delL σ.objs D) id = none)
    (h : evOpsDL P E nt (delL σ.objs D) ops id ops.toList K σ) : RegAt P nt (.region rid ops true) K σ := by
  intro w0 G a w hR
  refine wp_mono (draw_soundDL hE hm nt w0 rid ops id K σ G a w (delL σ.objs D) hn (fun _ _ hx => delL_get hx) hd hbox h hR) ?_
  rintro e a' w' ⟨ex, σ', G', rfl, ⟨rfl, hk⟩, hR'⟩
  exact ⟨rfl, σ', G', hk, hR'⟩
end
end Go.Vm

namespace Go.Vm
open Go.RowKit

/-- What is older is as it was, but behind the last operation. -/
def frmX (O O' : List (Nat × Ob)) (n : Nat) : List Oper → Prop
  | [] => True
  | _ :: _ => frmO O O' n
theorem frmX_iff {O O' : List (Nat × Ob)} {n : Nat} {r : List Oper} (hne : r ≠ []) (h : frmX O O' n r) : ∀ id, id < n → get O' id = get O id := by
  cases r with
  | nil => exact absurd rfl hne
  | cons a r => exact frmO_iff h
def evOpsX (P : Program) (E : Nat → Option TI) (nt : Nat) (O0 : List (Nat × Ob)) (n0 : Nat) (ops : Array Oper) : List Oper → (St → Prop) → St → Prop
  | [], K, σ => K σ
  | o :: rest, K, σ => scase (dstOk nt o.dst && noG o) (match isLite o.op with
    | true => evOpF P E false (frO false ops o) o.op ⟨σ.env, O0, σ.next⟩ fun v τ => (τ.objs = O0 ∧ τ.next = σ.next) ∧ putK σ o.dst v (evOpsX P E nt O0 n0 ops rest K)
    | false => evOpF P E false (frO false ops o) o.op σ fun v σ' => frmX O0 σ'.objs n0 rest ∧ putK σ' o.dst v (evOpsX P E nt O0 n0 ops rest K)) False
/-- The last operation changes, and waits for all others. -/
def LastAll (ops : Array Oper) : Prop := 0 < ops.size → ∃ x, ops[ops.size - 1]? = some x ∧ clsO ops x = 2 ∧ ∀ j, j < ops.size - 1 → Reach ops (ops.size - 1) j
def lastAll (ops : Array Oper) : Bool := match ops[ops.size - 1]?, (masks ops.toList [])[ops.size - 1]? with
  | some x, some m => Nat.beq (clsO ops x) 2 && (List.range (ops.size - 1)).all fun j => m.testBit j
  | _, _ => false
theorem lastAll_iff {ops : Array Oper} (h : lastAll ops = true) : LastAll ops := by
  intro hs
  have hreach := masks_reach (ops := ops) ops.toList [] (fun i o hi => by simpa using hi) (fun i x j hi => by simp at hi)
  unfold lastAll at h
  split at h
  · rename_i x m hx hm
    rw [Bool.and_eq_true] at h
    refine ⟨x, hx, Nat.eq_of_beq_eq_true h.1, fun j hj => hreach _ m j hm ?_⟩
    exact List.all_eq_true.1 h.2 j (by simp; omega)
  · cases h

section
variable {P : Program} {E : Nat → Option TI} {nt : Nat} {w0 : Base} {ops : Array Oper} {s : Nat → St} {av : Nat → AV}
structure LiteX (P : Program) (nt : Nat) (ops : Array Oper) (s : Nat → St) (av : Nat → AV) : Prop where
  frm : ∀ i, i < ops.size → ∀ id, id < (s 0).next → get (s i).objs id = get (s 0).objs id
  lite : ∀ (i : Nat) o, ops[i]? = some o → isLite o.op = true → (s (i + 1)).next = (s i).next ∧ GoB P nt ops i o ⟨(s i).env, (s 0).objs, (s i).next⟩ (av i) ⟨(s i).env, (s 0).objs, (s i).next⟩
theorem draw_anyX (hF : Facts0 P nt ops s av) (hL : LiteX P nt ops s av) (hd : DrawOKL ops) (hla : LastAll ops) {Q : Exit → Act → World → Prop} (hQ : ∀ G a w, Rel w0 (s ops.size) G nt a w → Q .normal a w) :
    ∀ (fuel : Nat) (listed : Array Bool) (m : Nat) (G : Gh) (a : Act) (w : World), (List.range ops.size).countP (fun i => !listed.getD i false) ≤ fuel → Inv w0 nt ops s av listed m G a w → wpAny P .any ops Q fuel listed a w := by
  have fin : ∀ (listed : Array Bool) (m : Nat) (G : Gh) (a : Act) (w : World), Inv w0 nt ops s av listed m G a w → Region.ready .any ops listed = [] → Q .normal a w := by
    intro listed m G a w hI hr
    have all : ∀ i, i < ops.size → inS listed i := by
      intro i
      induction i using Nat.strongRecOn with
      | ind i ih =>
        intro hi
        by_cases h : inS listed i
        · exact h
        · exfalso
          have : i ∈ Region.ready .any ops listed := mem_ready.2 ⟨by
            unfold inS at h
            rw [Array.getD_eq_getD_getElem?] at h ⊢
            rw [Array.getElem?_eq_getElem (by rw [hI.size]; exact hi)] at h ⊢
            simpa using h, ops[i], by simp, fun e he hb => by
              have hlt := hd.back i ops[i] e (by simp) he hb
              exact ih e.on hlt (by omega)⟩
          rw [hr] at this
          cases this
    have hm : m = ops.size := by
      rcases Nat.lt_or_ge m ops.size with h | h
      · exact absurd (all m h) (hI.ph.new ops[m] (by simp)).2
      · have := hI.ph.le; omega
    have hm' := hm
    subst hm
    refine hQ G a w ⟨hI.mem, fun k u hu => ?_, fun k u hu => ?_, hI.tmps, fun j hj => ?_, wf_all hF (Nat.le_refl _), hI.defers⟩
    · rcases env_at hF (Nat.le_refl _) k u hu with ⟨i, x, h1, h2, h3, rfl⟩ | ⟨h1, h2⟩
      · exact hI.done i x k (all i h1) h2 h3
      · exact hI.kept k u h2 (fun i x hi hx => h1 i x (Array.getElem?_eq_some_iff.1 hx).1 hx)
    · rcases env_at hF (Nat.le_refl _) k u hu with ⟨i, x, h1, h2, h3, rfl⟩ | ⟨h1, h2⟩
      · exact .inl ((hF.fact i x h2).dst k h3)
      · exact hF.lt k u h2
    · rcases hI.laid j hj with h | ⟨i, h1, h2, h3⟩
      · exact Nat.lt_of_lt_of_le h (next_mono hF (Nat.zero_le _) (Nat.le_refl _))
      · have hi := inS_lt h1
        rw [hI.size] at hi
        exact Nat.lt_of_lt_of_le h3 (next_mono hF (by omega) (Nat.le_refl _))
  intro fuel
  induction fuel with
  | zero =>
    intro listed m G a w hc hI
    have hr : Region.ready .any ops listed = [] := by
      refine List.eq_nil_iff_forall_not_mem.2 (fun j hj => ?_)
      obtain ⟨h1, o, h2, _⟩ := mem_ready.1 hj
      have hjn : j < ops.size := (Array.getElem?_eq_some_iff.1 h2).1
      have h0 : (List.range ops.size).countP (fun i => !listed.getD i false) = 0 := by omega
      have := List.countP_eq_zero.1 h0 j (by simp [hjn])
      rw [Array.getD_eq_getD_getElem?] at h1 this
      rw [Array.getElem?_eq_getElem (by rw [hI.size]; exact hjn)] at h1 this
      simp at h1 this
      rw [h1] at this
      cases this
    exact ⟨hr, fin listed m G a w hI hr⟩
  | succ fuel ih =>
    intro listed m G a w hc hI
    refine ⟨fin listed m G a w hI, fun j hj => ?_⟩
    obtain ⟨hun, o, ho, _⟩ := mem_ready.1 hj
    have hjn : j < ops.size := (Array.getElem?_eq_some_iff.1 ho).1
    have hjl : j < listed.size := by rw [hI.size]; exact hjn
    have hnj : ¬ inS listed j := by
      unfold inS
      rw [Array.getD_eq_getD_getElem?] at hun ⊢
      rw [Array.getElem?_eq_getElem hjl] at hun ⊢
      simp at hun ⊢
      exact hun
    have hcnt : (List.range ops.size).countP (fun i => !(listed.setIfInBounds j true).getD i false) ≤ fuel := by
      have := countP_lt (p := fun i => !listed.getD i false) (q := fun i => !(listed.setIfInBounds j true).getD i false) (l := List.range ops.size) (x := j) (fun y _ hy => by
        by_cases h : inS listed y
        · have := inS_set_mono (i := j) h
          unfold inS at this
          rw [this] at hy
          cases hy
        · unfold inS at h
          cases hb : listed.getD y false with
          | true => exact absurd hb h
          | false => rfl) (by simp [hjn]) (by unfold inS at hnj; cases hb : listed.getD j false with | true => exact absurd hb hnj | false => rfl)
          (by have := getD_set_same hjl; unfold inS at this; simp [this])
      omega
    have hf := hF.fact j o ho
    have hsl := slots_atL hF hd hI ho hj
    have same : clsO ops o ≠ 2 → Phase ops (listed.setIfInBounds j true) m := fun h2 => ⟨hI.ph.le, fun i x hi hx hcx => inS_set_mono (hI.ph.old i x hi hx hcx), fun x hx => by
      obtain ⟨h3, h4⟩ := hI.ph.new x hx
      refine ⟨h3, fun h5 => ?_⟩
      rcases inS_set h5 with h5 | rfl
      · exact h4 h5
      · rw [ho] at hx; injection hx with hx; subst hx; exact h2 h3⟩
    rcases clsO_le ops o with h0 | h1 | h2
    · obtain ⟨_, _, hg⟩ := hf.a h0
      refine hg _ G w a _ Q hsl (fun u hu => ih _ m G _ w hcnt (inv_stepL hF hd hI ho hj (same (by omega)) hI.mem Pres.refl hu (fun x hx => .inl hx)))
    · cases hlo : isLite o.op with
      | true =>
        obtain ⟨hnx, hg⟩ := hL.lite j o ho hlo
        refine hg w0 (s m).objs G w a _ Q (fun id ob hob => ?_) hI.mem hsl (fun x hx1 hx2 => absurd hx1 (Nat.not_le_of_lt hx2)) (fun G' u w' hM' hp hu hA => ih _ m G' _ w' hcnt (inv_stepL hF hd hI ho hj (same (by omega)) hM' hp hu (fun x hx => (hA x hx).imp_right (fun h => absurd h.1 (Nat.not_le_of_lt h.2)))))
        have hm : m < ops.size := by
          rcases Nat.lt_or_ge m ops.size with h | h
          · exact h
          · exfalso
            obtain ⟨x, hx, hcx, hall⟩ := hla (by omega)
            have hin := hI.ph.old (ops.size - 1) x (by omega) hx hcx
            by_cases e : j = ops.size - 1
            · exact hnj (e ▸ hin)
            · exact hnj (reach_in hI.closed (hall j (by omega)) hin)
        rw [hL.frm m hm id (wf_all hF (Nat.zero_le _) id ob hob)]; exact hob
      | false =>
        have hjm : j < m := by
          rcases Nat.lt_or_ge j m with h | h
          · exact h
          · exfalso
            have hmn : m < ops.size := by omega
            obtain ⟨h3, h4⟩ := hI.ph.new ops[m] (by simp)
            have hne : m ≠ j := fun e => by
              subst e
              rw [Array.getElem?_eq_getElem hmn] at ho
              injection ho with ho
              rw [ho] at h3
              omega
            exact h4 (ready_reach hI.closed hj ((hd.pair j m ops[m] o (by omega) (by simp) ho).2 (conflictL_me (lite_cls h3) (by first | exact hlo | exact lite_cls h2) (.inl ⟨h3, by omega⟩))))
        have hext := objs_ext hF (i := j + 1) (j := m) (by omega) hI.ph.le (fun k x hk1 hk2 hx hcx => by
          have hk := hI.ph.old k x hk2 hx hcx
          exact hnj (reach_in hI.closed ((hd.pair k j o x (by omega) ho hx).2 (conflictL_me (by first | exact hlo | exact lite_cls h2) (lite_cls hcx) (.inr ⟨hcx, by omega⟩))) hk))
        refine hf.b h1 w0 (s m).objs G w a _ Q (fun id ob hob => ?_) hI.mem hsl (fun x hx1 hx2 hA => ?_) (fun G' u w' hM' hp hu hA => ih _ m G' _ w' hcnt (inv_stepL hF hd hI ho hj (same (by omega)) hM' hp hu (fun x hx => (hA x hx).imp_right (fun h => .inr ⟨j, getD_set_same hjl, h⟩))))
        · rw [hext id (hf.wf id ob hob)]; exact hob
        · rcases hI.laid x hA with h | ⟨i, h3, h4, h5⟩
          · have := next_mono hF (Nat.zero_le j) (Nat.le_of_lt hjn)
            omega
          · have hil := inS_lt h3
            rw [hI.size] at hil
            rcases Nat.lt_trichotomy i j with h | h | h
            · have := next_mono hF (show i + 1 ≤ j from h) (Nat.le_of_lt hjn)
              omega
            · subst h; exact hnj h3
            · have := next_mono hF (show j + 1 ≤ i from h) (Nat.le_of_lt hil)
              omega
    · have hjm : j = m := by
        rcases Nat.lt_trichotomy j m with h | h | h
        · exact absurd (hI.ph.old j o h ho h2) hnj
        · exact h
        · exfalso
          have hmn : m < ops.size := by omega
          obtain ⟨h3, h4⟩ := hI.ph.new ops[m] (by simp)
          exact h4 (ready_reach hI.closed hj ((hd.pair j m ops[m] o h (by simp) ho).2 (conflictL_me (lite_cls h3) (by first | exact hlo | exact lite_cls h2) (.inl ⟨h3, by omega⟩))))
      subst hjm
      have hlt : ∀ x, G.A x → x < (s j).next := by
        intro x hA
        rcases hI.laid x hA with h | ⟨i, h3, h4, h5⟩
        · exact Nat.lt_of_lt_of_le h (next_mono hF (Nat.zero_le j) (Nat.le_of_lt hjn))
        · have hil := inS_lt h3
          rw [hI.size] at hil
          rcases Nat.lt_trichotomy i j with h | h | h
          · exact Nat.lt_of_lt_of_le h5 (next_mono hF h (Nat.le_of_lt hjn))
          · subst h; exact absurd h3 hnj
          · exfalso
            have hx : ops[i]? = some ops[i] := by simp
            by_cases hci : clsO ops (ops[i]) = 0
            · have := ((hF.fact i _ hx).a hci).2.1
              omega
            · cases hli : isLite (ops[i]).op with
              | true => have := (hL.lite i _ hx hli).1; omega
              | false => exact hnj (reach_in hI.closed ((hd.pair i j o ops[i] h ho hx).2 (conflictL_me (lite_cls h2) hli (.inl ⟨h2, hci⟩))) h3)
      obtain ⟨m', hm1, hm2, hm3, hm4⟩ := phase_next (ops.size - (j + 1)) ops.size (j + 1) rfl (by omega) (fun i => match ops[i]? with | some x => Nat.beq (clsO ops x) 2 | none => false)
      have hno : ∀ (k : Nat) x, j + 1 ≤ k → k < m' → ops[k]? = some x → clsO ops x ≠ 2 := by
        intro k x h1 h2 h3 h4
        have := hm3 k h1 h2
        simp [h3, h4] at this
      have hext := objs_ext hF (i := j + 1) (j := m') hm1 hm2 hno
      have hph : Phase ops (listed.setIfInBounds j true) m' := by
        refine ⟨hm2, fun i x hi hx hcx => ?_, fun x hx => ?_⟩
        · rcases Nat.lt_trichotomy i j with h | h | h
          · exact inS_set_mono (hI.ph.old i x h hx hcx)
          · subst h; exact getD_set_same hjl
          · exact absurd hcx (hno i x h hi hx)
        · have hlt' : m' < ops.size := (Array.getElem?_eq_some_iff.1 hx).1
          have hc2 := hm4 hlt'
          simp only [hx] at hc2
          have hc2 := Nat.eq_of_beq_eq_true hc2
          refine ⟨hc2, fun h => ?_⟩
          rcases inS_set h with h | rfl
          · exact hnj (reach_in hI.closed ((hd.pair m' j o x (by omega) ho hx).2 (conflictL_me (lite_cls h2) (lite_cls hc2) (.inl ⟨h2, by omega⟩))) h)
          · omega
      refine hf.e h2 w0 G w a _ Q hI.mem hsl hlt (fun G' u w' hM' hp hu hA => ?_)
      obtain ⟨hM2, hp2⟩ := mem_later hM' hA hext
      refine ih _ m' G' _ w' hcnt (inv_stepL hF hd hI ho hj hph hM2 (hp.trans hp2) ((av j).rep_pres hp2 _ hu) (fun x hx => ?_))
      right
      by_cases h0 : x < (s 0).next
      · exact .inl h0
      · obtain ⟨i, h3, h4, h5⟩ := range_of (s := s) (j + 1) x (by omega) (hA x hx)
        refine .inr ⟨i, ?_, h4, h5⟩
        rcases Nat.lt_or_ge i j with h | h
        · have hx' : ops[i]? = some ops[i] := by simp
          cases hli : isLite (ops[i]).op with
          | true => have := (hL.lite i _ hx' hli).1; omega
          | false =>
            refine inS_set_mono (ready_reach hI.closed hj ((hd.pair j i ops[i] o h hx' ho).2 (conflictL_me hli (lite_cls h2) (.inr ⟨h2, fun hci => ?_⟩))))
            have := ((hF.fact i _ hx').a hci).2.1
            omega
        · have : i = j := by omega
          subst this
          exact getD_set_same hjl
theorem evOpsX_trace (hE : TOk P E) {K : St → Prop} {O0 : List (Nat × Ob)} {n0 : Nat} : ∀ (l : List Oper) (p : Nat) (σ : St), (∀ i o, l[i]? = some o → ops[p + i]? = some o) → σ.wf → (l ≠ [] → ∀ id, id < n0 → get σ.objs id = get O0 id) → n0 ≤ σ.next → (∀ id ob, get O0 id = some ob → id < n0) → evOpsX P E nt O0 n0 ops l K σ →
    ∃ (s : Nat → St) (av : Nat → AV), s p = σ ∧ (∀ i o, l[i]? = some o → Fact P nt ops (p + i) o (s (p + i)) (av (p + i)) (s (p + i + 1))) ∧ K (s (p + l.length)) ∧
      (∀ i o, l[i]? = some o → (i + 1 < l.length → ∀ id, id < n0 → get (s (p + i + 1)).objs id = get O0 id) ∧ (isLite o.op = true → (s (p + i + 1)).next = (s (p + i)).next ∧ GoB P nt ops (p + i) o ⟨(s (p + i)).env, O0, (s (p + i)).next⟩ (av (p + i)) ⟨(s (p + i)).env, O0, (s (p + i)).next⟩))
  | [], p, σ, _, _, _, _, _, h => ⟨fun _ => σ, fun _ => .junk, rfl, by simp, h, by simp⟩
  | o :: rest, p, σ, hl, hw, hfr, hn0, hO, h => by
    have hi : ops[p]? = some o := by simpa using hl 0 o (by simp)
    simp only [evOpsX, putK_eq] at h
    rcases scase_out h with ⟨hd, h⟩ | ⟨_, h⟩
    case inr => exact h.elim
    rw [Bool.and_eq_true] at hd
    obtain ⟨hd, hgd⟩ := hd
    have hg : o.guard = none := by unfold noG at hgd; split at hgd <;> simp_all
    have next : ∀ {v : AV} {σ' : St}, Fact P nt ops p o σ v σ' → (rest ≠ [] → ∀ id, id < n0 → get σ'.objs id = get O0 id) → (isLite o.op = true → σ'.next = σ.next ∧ GoB P nt ops p o ⟨σ.env, O0, σ.next⟩ v ⟨σ.env, O0, σ.next⟩) → evOpsX P E nt O0 n0 ops rest K σ' → ∃ (s : Nat → St) (av : Nat → AV), s p = σ ∧ (∀ i q, (o :: rest)[i]? = some q → Fact P nt ops (p + i) q (s (p + i)) (av (p + i)) (s (p + i + 1))) ∧ K (s (p + (o :: rest).length)) ∧
        (∀ i q, (o :: rest)[i]? = some q → (i + 1 < (o :: rest).length → ∀ id, id < n0 → get (s (p + i + 1)).objs id = get O0 id) ∧ (isLite q.op = true → (s (p + i + 1)).next = (s (p + i)).next ∧ GoB P nt ops (p + i) q ⟨(s (p + i)).env, O0, (s (p + i)).next⟩ (av (p + i)) ⟨(s (p + i)).env, O0, (s (p + i)).next⟩)) := by
      intro v σ' hf hfr' hlt h
      obtain ⟨s, av, h1, h2, h3, h4⟩ := evOpsX_trace hE rest (p + 1) σ' (fun i q hq => by
        have := hl (i + 1) q (by simpa using hq)
        rw [show p + 1 + i = p + (i + 1) by omega]; exact this) hf.wf hfr' (Nat.le_trans hn0 hf.next) hO h
      refine ⟨fun i => if i = p then σ else s i, fun i => if i = p then v else av i, by simp, fun i q hq => ?_, ?_, fun i q hq => ?_⟩
      · cases i with
        | zero =>
          simp at hq
          subst hq
          simpa [h1] using hf
        | succ i =>
          have := h2 i q (by simpa using hq)
          rw [show p + 1 + i = p + (i + 1) by omega] at this
          have e1 : p + (i + 1) ≠ p := by omega
          have e2 : p + (i + 1) + 1 ≠ p := by omega
          simp only [e1, e2, if_false]
          exact this
      · have e1 : p + (rest.length + 1) ≠ p := by omega
        simp only [List.length_cons, e1, if_false]
        rw [show p + (rest.length + 1) = p + 1 + rest.length by omega]
        exact h3
      · cases i with
        | zero =>
          simp at hq
          subst hq
          have e2 : p + 1 ≠ p := by omega
          simp only [Nat.add_zero, e2, if_false, if_true, h1]
          exact ⟨fun hl1 => hfr' (by rintro rfl; simp at hl1), hlt⟩
        | succ i =>
          have := h4 i q (by simpa using hq)
          rw [show p + 1 + i = p + (i + 1) by omega] at this
          have e1 : p + (i + 1) ≠ p := by omega
          have e2 : p + (i + 1) + 1 ≠ p := by omega
          simp only [e1, e2, if_false]
          exact ⟨fun hl1 => this.1 (by simp at hl1; omega), this.2⟩
    split at h
    · rename_i hlo
      have hwτ : St.wf ⟨σ.env, O0, σ.next⟩ := fun id x hx => Nat.lt_of_lt_of_le (hO id x hx) hn0
      have hc1 : clsO ops o = 1 := lite_clsO hlo
      obtain ⟨v, τ, ⟨⟨ho1, ho2⟩, hk⟩, hf⟩ := fact_run (nt := nt) (σ := ⟨σ.env, O0, σ.next⟩) (τ := ⟨σ.env, O0, σ.next⟩) hE hi hwτ hd (fun _ _ h => h) rfl rfl (fun O G w a _ => by simp [Region.wanted, hg]) h
      have hgb : GoB P nt ops p o ⟨σ.env, O0, σ.next⟩ v ⟨σ.env, O0, σ.next⟩ := by
        have h5 := hf.b hc1
        obtain ⟨q1, q2, _⟩ := put_st τ o.dst v
        unfold GoB at h5 ⊢
        rw [q1, q2, ho1, ho2] at h5
        exact h5
      obtain ⟨p1, p2, p3⟩ := put_st σ o.dst v
      refine next (v := v) (σ' := σ.put o.dst v) ⟨hi, hf.dst, by rw [p2]; exact Nat.le_refl _, p3 hw, put_env (fun _ _ h => h) rfl, fun _ id _ => by rw [p1], fun h0 => by omega, fun _ => ?_, fun h0 => by omega⟩ (fun _ => by rw [p1]; exact hfr (by simp)) (fun _ => ⟨p2, hgb⟩) hk
      intro w0 O G w a Kc Q hsub hM hs hfr2 hK
      rw [p1] at hsub
      rw [p2] at hfr2 hK
      exact hgb w0 O G w a Kc Q (fun id ob hob => hsub id ob (by rw [hfr (by simp) id (hO id ob hob)]; exact hob)) hM hs hfr2 hK
    · rename_i hlo
      obtain ⟨v, σ', ⟨hfo, hk⟩, hf⟩ := fact_run (nt := nt) (τ := σ) hE hi hw hd (fun _ _ h => h) rfl rfl (fun O G w a _ => by simp [Region.wanted, hg]) h
      obtain ⟨p1, _, _⟩ := put_st σ' o.dst v
      exact next hf (fun hne => by rw [p1]; exact frmX_iff hne hfo) (fun h0 => by rw [hlo] at h0; cases h0) hk

/-- THE DRAWN REGION. -/
theorem draw_wpAnyX (hE : TOk P E) (nt : Nat) (w0 : Base) (ops : Array Oper) (K : St → Prop) (σ : St) (G : Gh) (a : Act) (w : World) (hok : drawOKL ops = true) (hla : lastAll ops = true)
    (h : evOpsX P E nt σ.objs σ.next ops ops.toList K σ) (hR : Rel w0 σ G nt a w) : wpAny P .any ops (Post w0 nt fun e σ' => e = .normal ∧ K σ') ops.size (Array.replicate ops.size false) a { w with drawn := w.drawn + 1 } := by
  obtain ⟨s, av, h1, h2, h3, h4⟩ := evOpsX_trace hE ops.toList 0 σ (fun i o hi => by simpa using hi) hR.wf (fun _ _ _ => rfl) (Nat.le_refl _) hR.wf h
  have hF : Facts0 P nt ops s av := ⟨fun i o ho => by have := h2 i o (by simpa using ho); simpa using this, by rw [h1]; exact hR.wf, by rw [h1]; exact hR.lt⟩
  have hL : LiteX P nt ops s av := ⟨fun i hi id hid => by
      rw [h1] at hid ⊢
      cases i with
      | zero => rw [h1]
      | succ i => have := (h4 i ops[i] (by simp)).1 (by simpa using hi) id hid; simpa using this, fun i o ho hl => by
      have := (h4 i o (by simpa using ho)).2 hl
      rw [h1]; simpa using this⟩
  have hd := drawOKL_spec hok
  simp only [Array.length_toList, Nat.zero_add] at h3
  have no : ∀ i, ¬ inS (Array.replicate ops.size false) i := fun i h => by
    unfold inS at h
    rw [Array.getD_eq_getD_getElem?, Array.getElem?_replicate] at h
    split at h <;> simp at h
  obtain ⟨m, _, hm2, hm3, hm4⟩ := phase_next (ops.size - 0) ops.size 0 rfl (by omega) (fun i => match ops[i]? with | some x => Nat.beq (clsO ops x) 2 | none => false)
  have hno : ∀ (k : Nat) x, 0 ≤ k → k < m → ops[k]? = some x → clsO ops x ≠ 2 := by
    intro k x h1 h2 h3 h4
    have := hm3 k h1 h2
    simp [h3, h4] at this
  have hM0 : Mem w0 σ.objs G { w with drawn := w.drawn + 1 } ∧ Pres σ.objs G w σ.objs G { w with drawn := w.drawn + 1 } :=
    hR.mem.step (fun id => Lv σ.objs G id) (fun _ => False) (fun id h => ⟨h, rfl⟩) ⟨rfl, rfl⟩ (fun id h => ⟨h, rfl, rfl, rfl⟩) (fun id h => .inl h) rfl rfl rfl (Nat.le_refl _) (fun b _ _ => rfl)
      (fun _ h => h.elim) (fun _ _ h => h.elim) (fun _ h => h.elim) (fun _ h => h.elim) (fun _ _ h => h.elim)
  have hlt : ∀ j, G.A j → j < (s 0).next := fun j hj => by rw [h1]; exact hR.fresh j hj
  obtain ⟨hM1, hp1⟩ := mem_later hM0.1 hR.fresh (by
    have := objs_ext hF (Nat.zero_le m) hm2 hno
    rw [h1] at this
    exact this)
  have hp := hM0.2.trans hp1
  refine draw_anyX (w0 := w0) hF hL hd (lastAll_iff hla) (fun G' a' w' hR' => ⟨.normal, s ops.size, G', rfl, ⟨rfl, h3⟩, hR'⟩) ops.size _ m G a _ ?_ ⟨by simp, fun i o e hi => absurd hi (no i), ⟨hm2, fun i o hi ho hc => absurd hc (hno i o (Nat.zero_le _) hi ho), fun o ho => ⟨?_, no m⟩⟩, hM1, fun j hj => .inl (hlt j hj), fun i o k hi => absurd hi (no i), fun k u hu _ => ?_, hR.size, hR.defers⟩
  · exact Nat.le_trans List.countP_le_length (by simp)
  · have := hm4 (Array.getElem?_eq_some_iff.1 ho).1
    simp only [ho] at this
    exact Nat.eq_of_beq_eq_true this
  · rw [h1] at hu
    exact u.rep_pres hp _ (hR.env k u hu)

/-- A drawn region whose last operation waits for all others. -/
theorem regAt_last (hE : TOk P E) (hm : P.follows .mixedOrders = true) {id : Nat} {K : St → Prop} {σ : St} (hd : drawOKL ops = true) (hla : lastAll ops = true) (h : evOpsX P E nt σ.objs σ.next ops ops.toList K σ) : RegAt P nt (.region id ops true) K σ := by
  intro w0 G a w hR
  refine wp_mono (Q := Post w0 nt fun e σ' => e = .normal ∧ K σ') (wp_region_any hm (draw_wpAnyX hE nt w0 ops K σ G a w hd hla h hR)) ?_
  rintro e a' w' ⟨ex, σ', G', rfl, ⟨rfl, hk⟩, hR'⟩
  exact ⟨rfl, σ', G', hk, hR'⟩
end

/-! ### Rows whose cells are known as values -/
def raws (css : List (List Value)) : List (List T) := css.map fun cs => cs.map T.raw
theorem raws_scal (css : List (List Value)) : ∀ r ∈ raws css, ∀ x ∈ r, isScal x = true := by
  intro r hr x hx
  obtain ⟨cs, _, rfl⟩ := List.mem_map.1 hr
  obtain ⟨u, _, rfl⟩ := List.mem_map.1 hx
  rfl
theorem raws_length (css : List (List Value)) : (raws css).length = css.length := by simp [raws]
theorem raws_take (css : List (List Value)) (k : Nat) : (raws css).take k = raws (css.take k) := by simp [raws, List.map_take]
theorem raws_drop (css : List (List Value)) (k : Nat) : (raws css).drop k = raws (css.drop k) := by simp [raws, List.map_drop]
theorem raw_cells {w : World} : ∀ {cs : List Value}, (∀ u ∈ cs, u.oneCell' = true ∧ u.cells = #[u]) → repCells w (cs.map T.raw) cs []
  | [], _ => by simp [repCells]
  | u :: cs, h => by
    simp only [List.map_cons, repCells]
    exact ⟨u, cs, [], [], rfl, rfl, by first | exact ⟨⟨rfl, h u (by simp)⟩, rfl⟩ | (simp only [T.rep]; exact ⟨⟨trivial, h u (by simp)⟩, trivial⟩), raw_cells (fun u hu => h u (by simp [hu]))⟩
theorem raw_rows {w : World} : ∀ {css : List (List Value)}, (∀ cs ∈ css, ∀ u ∈ cs, u.oneCell' = true ∧ u.cells = #[u]) → repRows w (raws css) css []
  | [], _ => by simp [raws, repRows]
  | cs :: css, h => by
    simp only [raws, List.map_cons, repRows]
    exact ⟨cs, css, [], [], rfl, rfl, raw_cells (h cs (by simp)), raw_rows (fun c hc => h c (by simp [hc]))⟩
theorem raw_cells_eq {w : World} : ∀ {cs vs : List Value} {F : List Nat}, repCells w (cs.map T.raw) vs F → vs = cs ∧ F = []
  | [], vs, F, h => by simpa [repCells] using h
  | u :: cs, vs, F, h => by
    simp only [List.map_cons, repCells] at h
    obtain ⟨v, vs', F1, F2, rfl, rfl, h3, h4⟩ := h
    simp only [T.rep] at h3
    obtain ⟨⟨rfl, _⟩, rfl⟩ := h3
    obtain ⟨rfl, rfl⟩ := raw_cells_eq h4
    exact ⟨rfl, rfl⟩
theorem raw_rows_eq {w : World} : ∀ {css vss : List (List Value)} {F : List Nat}, repRows w (raws css) vss F → vss = css ∧ F = []
  | [], vs, F, h => by simpa [raws, repRows] using h
  | cs :: css, vs, F, h => by
    simp only [raws, List.map_cons, repRows] at h
    obtain ⟨v, vs', F1, F2, rfl, rfl, h3, h4⟩ := h
    obtain ⟨rfl, rfl⟩ := raw_cells_eq h3
    obtain ⟨rfl, rfl⟩ := raw_rows_eq h4
    exact ⟨rfl, rfl⟩
theorem cells_ones {w : World} : ∀ {xs : List T} {vs : List Value} {F : List Nat}, repCells w xs vs F → ∀ v ∈ vs, v.oneCell' = true ∧ v.cells = #[v]
  | [], vs, F, h, v, hv => by simp only [repCells] at h; simp [h.1] at hv
  | x :: xs, _, F, h, v, hv => by
    simp only [repCells] at h
    obtain ⟨u, vs', F1, F2, h1, h4, h2, h3⟩ := h
    subst h1
    rcases List.mem_cons.1 hv with rfl | hv
    · exact T.rep_one h2
    · exact cells_ones h3 v hv
theorem rows_ones {w : World} : ∀ {xs : List (List T)} {vs : List (List Value)} {F : List Nat}, repRows w xs vs F → ∀ cs ∈ vs, ∀ v ∈ cs, v.oneCell' = true ∧ v.cells = #[v]
  | [], vs, F, h, cs, hv => by simp only [repRows] at h; simp [h.1] at hv
  | x :: xs, _, F, h, cs, hv => by
    simp only [repRows] at h
    obtain ⟨u, vs', F1, F2, h1, h4, h2, h3⟩ := h
    subst h1
    rcases List.mem_cons.1 hv with rfl | hv
    · exact cells_ones h2
    · exact rows_ones h3 cs hv
theorem rows_split {w : World} : ∀ {xs ys : List (List T)} {vs : List (List Value)} {F : List Nat}, repRows w (xs ++ ys) vs F → ∃ v1 v2 F1 F2, vs = v1 ++ v2 ∧ F = F1 ++ F2 ∧ repRows w xs v1 F1 ∧ repRows w ys v2 F2
  | [], ys, vs, F, h => ⟨[], vs, [], F, rfl, rfl, by simp [repRows], by simpa using h⟩
  | x :: xs, ys, vs, F, h => by
    simp only [List.cons_append, repRows] at h
    obtain ⟨v, vs', F1, F2, rfl, rfl, h3, h4⟩ := h
    obtain ⟨v1, v2, F3, F4, rfl, rfl, h5, h6⟩ := rows_split h4
    exact ⟨v :: v1, v2, F1 ++ F3, F4, rfl, by simp, by simp only [repRows]; exact ⟨v, v1, F1, F3, rfl, rfl, h3, h5⟩, h6⟩

/-- The ghost in which one object owns other blocks. -/
def Gh.own (G : Gh) (n : Nat) (F : List Nat) : Gh where
  A := G.A
  φ := G.φ
  Φ := fun j => if j = n then F else G.Φ j
  h := G.h
  b := G.b
  pin := G.pin

/-- Another reading of one object, with other blocks of its own, the same ones to be written: what reads on. -/
theorem own_pres {O : List (Nat × Ob)} {G : Gh} {w : World} {n : Nat} {o o' : Ob} {F : List Nat} (hg : get O n = some o) : Pres O G w (Vm.put O n o') (G.own n F) w ∧ ∀ j, Lv (Vm.put O n o') (G.own n F) j ↔ Lv O G j := by
  have hlv : ∀ j, Lv (Vm.put O n o') (G.own n F) j ↔ Lv O G j := by
    intro j
    unfold Lv
    by_cases e : j = n
    · subst e
      rw [get_put_same, hg]
      simp [Gh.own]
    · rw [get_put_other _ _ _ _ e]; exact Iff.rfl
  exact ⟨⟨fun _ h => ⟨h, rfl⟩, fun id hl b hb => .inl ⟨id, (hlv id).1 hl, hb⟩, fun _ _ _ => rfl, Nat.le_refl _, rfl, rfl⟩, hlv⟩

open Classical in
/-- A region in which the rows of a row of the call's own move into another row. 'bid': a box that a slot points to, with the row in it. -/
theorem regAt_raw {P : Program} {nt : Nat} {c : Code} {K : St → Prop} {σ : St} (j bid i id sz : Nat) (app : Bool) (cs : List C) (rows : List (List T)) (k : Nat) (hj : get σ.env j = some (.ptr bid 0)) (hb : get σ.objs bid = some (.box cs))
    (hi : cs[i]? = some (.ref id)) (hg : get σ.objs id = some (.row true app sz rows))
    (h : ∀ css : List (List Value), css.length = rows.length → (∀ cs ∈ css, cs.length = sz) →
      RegAt P nt c (fun σ' => ∃ n app' M R, get σ'.objs n = some (.row true app' sz (raws (css.take k) ++ M ++ raws (css.drop k))) ∧ rows.take k ++ M ++ rows.drop k = R ∧
        K ⟨σ'.env, Vm.put σ'.objs n (.row true app' sz R), σ'.next⟩) ⟨σ.env, Vm.put σ.objs id (.row true app sz (raws css)), σ.next⟩) : RegAt P nt c K σ := by
  intro w0 G a w hR
  have hM := hR.mem
  have hAb : G.A bid := by
    have := hR.env j _ hj
    simp only [AV.rep] at this
    exact this.1
  have hAid : G.A id := by
    obtain ⟨g, vs, e, _, _, h3, _⟩ := hM.obs bid _ hAb hb
    obtain ⟨v, _, h5⟩ := repCs_get h3 hi
    exact h5.1
  have hlvid : Lv σ.objs G id := ⟨hAid, _, hg⟩
  obtain ⟨css, F', r1, r2, r3, r4⟩ := hM.obs id _ hAid hg
  simp only [if_true] at r4
  have hlen := repRows_length r1
  have hnd := hM.nodup id hlvid
  rw [r4] at hnd
  obtain ⟨p1, l1⟩ := own_pres (G := G) (w := w) (o' := .row true app sz (raws css)) (F := G.h id) hg
  -- the world in which the region runs: what the moving rows own is not to be written
  let M' : List Nat := (σ.objs.map Prod.fst).flatMap fun j => if Lv σ.objs G j then (G.own id (G.h id)).Φ j else []
  have hM' : ∀ b, b ∈ M' ↔ ∃ j, Lv σ.objs G j ∧ b ∈ (G.own id (G.h id)).Φ j := by
    intro b
    simp only [M', List.mem_flatMap]
    constructor
    · rintro ⟨j, _, hb⟩
      split at hb
      · exact ⟨j, by assumption, hb⟩
      · simp at hb
    · rintro ⟨j, hl, hb⟩
      have ⟨_, o, ho⟩ := hl
      exact ⟨j, List.mem_map.2 ⟨_, get_mem ho, rfl⟩, by rw [if_pos hl]; exact hb⟩
  have sub : ∀ j, Lv σ.objs G j → ∀ b ∈ (G.own id (G.h id)).Φ j, b ∈ G.Φ j := by
    intro j hl b hb
    by_cases e : j = id
    · subst e
      simp only [Gh.own, if_pos] at hb
      exact hM.hds j hl b hb
    · simpa only [Gh.own, if_neg e] using hb
  have hFid : ∀ b ∈ F', b ∈ G.Φ id := fun b hb => by rw [r4]; simp [hb]
  have hF'M : ∀ b ∈ F', b ∉ M' := by
    intro b hb hm
    obtain ⟨j, hl, hbj⟩ := (hM' b).1 hm
    by_cases e : j = id
    · subst e
      simp only [Gh.own, if_pos] at hbj
      exact (List.nodup_append.1 hnd).2.2 b hbj b hb rfl
    · simp only [Gh.own, if_neg e] at hbj
      exact hM.disj j id hl hlvid e b hbj (hFid b hb)
  have hlt : ∀ j, Lv σ.objs G j → ∀ b ∈ G.Φ j, b < w.heap.size := fun j hl b hb => by
    obtain ⟨_, arr, e, h⟩ := hM.lo j hl b hb
    exact (Array.getElem?_eq_some_iff.1 h).1
  have hR1 : Rel ⟨w, M', w0.b, w0.pin⟩ ⟨σ.env, Vm.put σ.objs id (.row true app sz (raws css)), σ.next⟩ (G.own id (G.h id)) nt a w := by
    refine ⟨⟨⟨rfl, rfl, rfl, Nat.le_refl _, fun _ _ _ => rfl⟩, fun b hb => Nat.lt_of_lt_of_le (hM.base b hb) hM.below.size, hM.fix, fun j o ha ho => ?_, fun j hl => ?_, fun j j' hl hl' hne b hb hb' => ?_, fun j hl b hb => ?_, fun j hl b hb => ?_⟩, fun k v hk => v.rep_pres p1 _ (hR.env k v hk), hR.lt, hR.size, hR.fresh, ?_, hR.defers⟩
    · by_cases e : j = id
      · subst e
        rw [get_put_same] at ho
        injection ho with ho
        subst ho
        refine ⟨css, [], raw_rows (rows_ones r1), r2, ?_, by simp [Gh.own]⟩
        rw [raws_length, hlen]
        cases app with
        | true => simp only [if_true] at r3 ⊢; exact r3
        | false =>
          simp only [Bool.false_eq_true, if_false] at r3 ⊢
          refine ⟨r3.1, r3.2.imp (fun h => h) (fun h => ⟨?_, h.2⟩)⟩
          have : css = [] := List.eq_nil_of_length_eq_zero (by rw [hlen, h.1]; rfl)
          rw [this]; rfl
      · have ho' := ho
        simp only [get_put_other _ _ _ _ e] at ho'
        exact Ob.rep_pres p1 (id := j) rfl (by simp only [Gh.own, if_neg e]) rfl (hM.hds j ⟨ha, _, ho'⟩) (fun _ _ => rfl) o (hM.obs j o ha ho')
    · by_cases e : j = id
      · subst e
        simp only [Gh.own, if_pos]
        exact (List.nodup_append.1 hnd).1
      · simp only [Gh.own, if_neg e]
        exact hM.nodup j ((l1 j).1 hl)
    · exact hM.disj j j' ((l1 j).1 hl) ((l1 j').1 hl') hne b (sub j ((l1 j).1 hl) b hb) (sub j' ((l1 j').1 hl') b hb')
    · have hl0 := (l1 j).1 hl
      exact ⟨⟨.inr ((hM' b).2 ⟨j, hl0, hb⟩), (hM.lo j hl0 b (sub j hl0 b hb)).1.2⟩, (hM.lo j hl0 b (sub j hl0 b hb)).2⟩
    · have hl0 := (l1 j).1 hl
      by_cases e : j = id
      · subst e
        simp only [Gh.own, if_pos]
        exact hb
      · simp only [Gh.own, if_neg e]
        exact hM.hds j hl0 b hb
    · exact wf_put hR.wf (hR.wf id _ hg)
  refine wp_mono (h css hlen r2 _ _ _ _ hR1) ?_
  rintro e a' w' ⟨he, σ', G', ⟨n, app', M, R, hn, rfl, hK⟩, hR'⟩
  have hm := hR'.mem
  refine ⟨he, ⟨σ'.env, Vm.put σ'.objs n (.row true app' sz (rows.take k ++ M ++ rows.drop k)), σ'.next⟩, ?_⟩
  have hsame : ∀ b ∈ F', w'.heap[b]? = w.heap[b]? := fun b hb => hm.below.block b (hlt id hlvid b (hFid b hb)) (hF'M b hb)
  have hlow : ∀ b, (w.heap.size ≤ b ∨ b ∈ M') → w0.w.heap.size ≤ b ∨ b ∈ w0.M := by
    intro b hb
    rcases hb with hb | hb
    · exact .inl (Nat.le_trans hM.below.size hb)
    · obtain ⟨j, hl, hbj⟩ := (hM' b).1 hb
      exact (hM.lo j hl b (sub j hl b hbj)).1.1
  have hbelow : BelowM w0.M w0.w w' := by
    refine hM.below.trans' hm.below.os hm.below.tape hm.below.output hm.below.size (fun b hb hbm => hm.below.block b (Nat.lt_of_lt_of_le hb hM.below.size) (fun hbM => ?_))
    rcases hlow b (.inr hbM) with h | h
    · omega
    · exact hbm h
  have hF'n : ∀ j, Lv σ'.objs G' j → ∀ b ∈ F', b ∉ G'.Φ j := by
    intro j hl b hb hbj
    rcases (hm.lo j hl b hbj).1.1 with h | h
    · have := hlt id hlvid b (hFid b hb)
      exact absurd this (Nat.not_lt.2 h)
    · exact hF'M b hb h
  -- the new row's own
  by_cases hAn : G'.A n
  case neg =>
    have hp : Pres σ'.objs G' w' (Vm.put σ'.objs n (.row true app' sz (rows.take k ++ M ++ rows.drop k))) G' w' ∧ ∀ j, Lv (Vm.put σ'.objs n (.row true app' sz (rows.take k ++ M ++ rows.drop k))) G' j ↔ Lv σ'.objs G' j := by
      have hlv : ∀ j, Lv (Vm.put σ'.objs n (.row true app' sz (rows.take k ++ M ++ rows.drop k))) G' j ↔ Lv σ'.objs G' j := by
        intro j
        unfold Lv
        by_cases e : j = n
        · subst e; exact ⟨fun h => absurd h.1 hAn, fun h => absurd h.1 hAn⟩
        · rw [get_put_other _ _ _ _ e]
      exact ⟨⟨fun _ h => ⟨h, rfl⟩, fun id hl b hb => .inl ⟨id, (hlv id).1 hl, hb⟩, fun _ _ _ => rfl, Nat.le_refl _, rfl, rfl⟩, hlv⟩
    obtain ⟨p2, l2⟩ := hp
    refine ⟨G', hK, ⟨hbelow, hM.base, hm.fix, fun j o ha ho => ?_, fun j hl => hm.nodup j ((l2 j).1 hl), fun j j' hl hl' => hm.disj j j' ((l2 j).1 hl) ((l2 j').1 hl'), fun j hl b hb => ?_, fun j hl => hm.hds j ((l2 j).1 hl)⟩, fun k v hk => v.rep_pres p2 _ (hR'.env k v hk), hR'.lt, hR'.size, hR'.fresh, wf_put hR'.wf (hR'.wf n _ hn), hR'.defers⟩
    · have e : j ≠ n := fun e => hAn (e ▸ ha)
      have ho' := ho
      simp only [get_put_other _ _ _ _ e] at ho'
      exact Ob.rep_pres p2 (id := j) rfl rfl rfl (hm.hds j ⟨ha, _, ho'⟩) (fun _ _ => rfl) o (hm.obs j o ha ho')
    · have := hm.lo j ((l2 j).1 hl) b hb
      exact ⟨⟨hlow b this.1.1, this.1.2⟩, this.2⟩
  have hlvn : Lv σ'.objs G' n := ⟨hAn, _, hn⟩
  obtain ⟨css2, F2, q1, q2, q3, q4⟩ := hm.obs n _ hAn hn
  simp only [if_true] at q4
  obtain ⟨v1, v3, Fx, F3, rfl, rfl, q5, q6⟩ := rows_split q1
  obtain ⟨v1, v2, F1, FM, rfl, rfl, q7, q8⟩ := rows_split q5
  obtain ⟨rfl, rfl⟩ := raw_rows_eq q7
  obtain ⟨rfl, rfl⟩ := raw_rows_eq q6
  simp only [List.nil_append, List.append_nil] at q4
  obtain ⟨Fa, Fb, rfl, s1, s2⟩ := repRows_cut k r1
  have s1' := repRows_keep _ _ _ s1 (fun b hb => hsame b (by simp [hb]))
  have s2' := repRows_keep _ _ _ s2 (fun b hb => hsame b (by simp [hb]))
  have hrows : repRows w' (rows.take k ++ M ++ rows.drop k) (css.take k ++ v2 ++ css.drop k) (Fa ++ FM ++ Fb) := repRows_append (repRows_append s1' q8) s2'
  obtain ⟨p2, l2⟩ := own_pres (G := G') (w := w') (o' := .row true app' sz (rows.take k ++ M ++ rows.drop k)) (F := G'.h n ++ (Fa ++ FM ++ Fb)) hn
  have hndF := (List.nodup_append.1 hnd).2.1
  have hndn := hm.nodup n hlvn
  rw [q4] at hndn
  have inn : ∀ j, Lv σ'.objs G' j → ∀ b ∈ (G'.own n (G'.h n ++ (Fa ++ FM ++ Fb))).Φ j, b ∈ G'.Φ j ∨ (j = n ∧ b ∈ Fa ++ Fb) := by
    intro j hl b hb
    by_cases e : j = n
    · subst e
      simp only [Gh.own, if_pos] at hb
      rw [q4]
      simp only [List.mem_append] at hb ⊢
      rcases hb with hb | (hb | hb) | hb
      · exact .inl (.inl hb)
      · exact .inr (by simp [hb])
      · exact .inl (.inr hb)
      · exact .inr (by simp [hb])
    · simp only [Gh.own, if_neg e] at hb
      exact .inl hb
  have hlenn : (raws (css.take k) ++ M ++ raws (css.drop k)).length = (rows.take k ++ M ++ rows.drop k).length := by
    simp only [List.length_append, raws_length, List.length_take, List.length_drop, hlen]
  refine ⟨G'.own n (G'.h n ++ (Fa ++ FM ++ Fb)), hK, ⟨hbelow, hM.base, hm.fix, fun j o ha ho => ?_, fun j hl => ?_, fun j j' hl hl' hne b hb hb' => ?_, fun j hl b hb => ?_, fun j hl b hb => ?_⟩, fun k v hk => v.rep_pres p2 _ (hR'.env k v hk), hR'.lt, hR'.size, hR'.fresh, wf_put hR'.wf (hR'.wf n _ hn), hR'.defers⟩
  · by_cases e : j = n
    · subst e
      simp only [get_put_same, Option.some.injEq] at ho
      subst ho
      refine ⟨_, _, hrows, q2, ?_, by simp [Gh.own]⟩
      show if app' = true then _ else _
      rw [hlenn] at q3
      cases app' with
      | true => simp only [if_true] at q3 ⊢; exact q3
      | false =>
        simp only [Bool.false_eq_true, if_false] at q3 ⊢
        refine ⟨q3.1, q3.2.imp (fun h => h) (fun h => ⟨List.eq_nil_of_length_eq_zero (by rw [← hlenn, h.1]; rfl), h.2⟩)⟩
    · have ho' := ho
      simp only [get_put_other _ _ _ _ e] at ho'
      exact Ob.rep_pres p2 (id := j) rfl (by simp only [Gh.own, if_neg e]) rfl (hm.hds j ⟨ha, _, ho'⟩) (fun _ _ => rfl) o (hm.obs j o ha ho')
  · by_cases e : j = n
    · subst e
      simp only [Gh.own, if_pos]
      have hx := hF'n j hlvn
      rw [q4] at hx
      rw [List.nodup_append] at hndn hndF ⊢
      refine ⟨hndn.1, ?_, fun x hx1 y hy => ?_⟩
      · rw [List.nodup_append]
        refine ⟨?_, hndF.2.1, fun x hx1 y hy e => ?_⟩
        · rw [List.nodup_append]
          refine ⟨hndF.1, hndn.2.1, fun x hx1 y hy e => ?_⟩
          subst e
          exact hx x (by simp [hx1]) (by simp [hy])
        · subst e
          rcases List.mem_append.1 hx1 with h1 | h1
          · exact hndF.2.2 x h1 x hy rfl
          · exact hx x (by simp [hy]) (by simp [h1])
      · intro e
        subst e
        simp only [List.mem_append] at hy
        rcases hy with (hy | hy) | hy
        · exact hx x (by simp [hy]) (by simp [hx1])
        · exact hndn.2.2 x hx1 x hy rfl
        · exact hx x (by simp [hy]) (by simp [hx1])
    · simp only [Gh.own, if_neg e]
      exact hm.nodup j ((l2 j).1 hl)
  · have k1 := (l2 j).1 hl
    have k2 := (l2 j').1 hl'
    rcases inn j k1 b hb with h1 | ⟨e1, h1⟩
    · rcases inn j' k2 b hb' with h2 | ⟨e2, h2⟩
      · exact hm.disj j j' k1 k2 hne b h1 h2
      · exact hF'n j k1 b h2 h1
    · rcases inn j' k2 b hb' with h2 | ⟨e2, h2⟩
      · exact hF'n j' k2 b h1 h2
      · exact hne (e1.trans e2.symm)
  · have k1 := (l2 j).1 hl
    rcases inn j k1 b hb with h1 | ⟨e1, h1⟩
    · have := hm.lo j k1 b h1
      exact ⟨⟨hlow b this.1.1, this.1.2⟩, this.2⟩
    · have := hM.lo id hlvid b (hFid b h1)
      refine ⟨this.1, ?_⟩
      rw [hsame b h1]
      exact this.2
  · have k1 := (l2 j).1 hl
    by_cases e : j = n
    · subst e
      simp only [Gh.own, if_pos]
      exact List.mem_append_left _ hb
    · simp only [Gh.own, if_neg e]
      exact hm.hds j k1 b hb
end Go.Vm

namespace Go.Vm
open Go.RowKit

/-- The operations of the text but the call 'j0' and the last, on objects that neither touches. -/
def evOpsO (P : Program) (E : Nat → Option TI) (nt : Nat) (O0 : List (Nat × Ob)) (N0 : Nat) (ops : Array Oper) (j0 : Nat) : Nat → List Oper → (List (Nat × AV) → Prop) → List (Nat × AV) → Prop
  | _, [], K, env => K env
  | i, o :: rest, K, env => match Nat.beq i j0 with
    | true => evOpsO P E nt O0 N0 ops j0 (i + 1) rest K env
    | false => scase (dstOk nt o.dst && (noG o && !Nat.beq (clsO ops o) 2)) (evOpF P E false (frO false ops o) o.op ⟨env, O0, N0⟩ fun v τ => (τ.objs = O0 ∧ τ.next = N0) ∧ putK ⟨env, O0, N0⟩ o.dst v fun σ' => evOpsO P E nt O0 N0 ops j0 (i + 1) rest K σ'.env) False
/-- Nobody but the last looks at what the call gives; what the call looks at is not written behind it. -/
def oneOK (ops : Array Oper) (j0 dC : Nat) (c : Oper) : Bool :=
  (List.range (ops.size - 1)).all fun i => Nat.beq i j0 || match ops[i]? with
    | some o => !memN dC (o.looksAt ops) && (Nat.blt i j0 || !dstIn o.dst (c.looksAt ops))
    | none => true
theorem oneOK_at {ops : Array Oper} {j0 dC : Nat} {c : Oper} (h : oneOK ops j0 dC c = true) {i : Nat} {o : Oper} (hi : i < ops.size - 1) (hne : i ≠ j0) (ho : ops[i]? = some o) : dC ∉ o.looksAt ops ∧ (j0 < i → ∀ k, o.dst = some k → k ∉ c.looksAt ops) := by
  have := List.all_eq_true.1 h i (by simpa using hi)
  rw [Bool.or_eq_true] at this
  rcases this with h1 | h1
  · exact absurd (Nat.eq_of_beq_eq_true h1) hne
  · rw [ho] at h1
    simp only [Bool.and_eq_true, Bool.or_eq_true, Bool.not_eq_true'] at h1
    refine ⟨fun hm => ?_, fun hlt k hk hm => ?_⟩
    · rw [memN_iff.2 hm] at h1; exact absurd h1.1 (by simp)
    · rcases h1.2 with h2 | h2
      · have : i + 1 ≤ j0 := by simpa [Nat.blt] using h2
        omega
      · rw [hk] at h2
        simp only [dstIn] at h2
        rw [memN_iff.2 hm] at h2
        cases h2

structure RF (P : Program) (nt : Nat) (ops : Array Oper) (O0 : List (Nat × Ob)) (i : Nat) (o : Oper) (e e' : List (Nat × AV)) (v : AV) : Prop where
  dst : ∀ d, o.dst = some d → d < nt
  env : ∀ k u, get e' k = some u → (o.dst = some k ∧ u = v) ∨ (o.dst ≠ some k ∧ get e k = some u)
  run : ∀ (w0 : Base) O G w a (Kc : Act → World → Prop) (Q : Exit → Act → World → Prop), (∀ id ob, get O0 id = some ob → get O id = some ob) → Mem w0 O G w → Slots nt ops o e O G w a →
    (∀ G' u w', Mem w0 O G' w' → Pres O G w O G' w' → v.rep O G' w' u → (∀ j, G'.A j → G.A j) → Kc (a.put o.dst u) w') → wpOp P ops Q i Kc a w
structure TrO (P : Program) (nt : Nat) (ops : Array Oper) (O0 : List (Nat × Ob)) (j0 : Nat) (e : Nat → List (Nat × AV)) (av : Nat → AV) : Prop where
  skip : e (j0 + 1) = e j0
  fact : ∀ (i : Nat) o, i < ops.size - 1 → i ≠ j0 → ops[i]? = some o → RF P nt ops O0 i o (e i) (e (i + 1)) (av i)
  lt : ∀ k u, get (e 0) k = some u → k < nt ∨ isFrm u = true

section
variable {P : Program} {E : Nat → Option TI} {nt : Nat} {w0 : Base} {ops : Array Oper}

theorem evOpsO_trace (hE : TOk P E) {O0 : List (Nat × Ob)} {N0 j0 : Nat} {K : List (Nat × AV) → Prop} (hwf : ∀ id ob, get O0 id = some ob → id < N0) : ∀ (l : List Oper) (p : Nat) (env : List (Nat × AV)), (∀ i o, l[i]? = some o → ops[p + i]? = some o) → evOpsO P E nt O0 N0 ops j0 p l K env →
    ∃ (e : Nat → List (Nat × AV)) (av : Nat → AV), e p = env ∧ (∀ i o, l[i]? = some o → p + i ≠ j0 → RF P nt ops O0 (p + i) o (e (p + i)) (e (p + i + 1)) (av (p + i))) ∧ (∀ i, i < l.length → p + i = j0 → e (p + i + 1) = e (p + i)) ∧ K (e (p + l.length))
  | [], p, env, _, h => ⟨fun _ => env, fun _ => .junk, rfl, by simp, by simp, h⟩
  | o :: rest, p, env, hl, h => by
    have hi : ops[p]? = some o := by simpa using hl 0 o (by simp)
    have hl' : ∀ i q, rest[i]? = some q → ops[p + 1 + i]? = some q := fun i q hq => by
      have := hl (i + 1) q (by simpa using hq)
      rw [show p + 1 + i = p + (i + 1) by omega]; exact this
    have next : ∀ {v : AV} {env' : List (Nat × AV)}, (p ≠ j0 → RF P nt ops O0 p o env env' v) → (p = j0 → env' = env) → evOpsO P E nt O0 N0 ops j0 (p + 1) rest K env' → ∃ (e : Nat → List (Nat × AV)) (av : Nat → AV), e p = env ∧ (∀ i q, (o :: rest)[i]? = some q → p + i ≠ j0 → RF P nt ops O0 (p + i) q (e (p + i)) (e (p + i + 1)) (av (p + i))) ∧
        (∀ i, i < (o :: rest).length → p + i = j0 → e (p + i + 1) = e (p + i)) ∧ K (e (p + (o :: rest).length)) := by
      intro v env' hf hs h
      obtain ⟨e, av, h1, h2, h3, h4⟩ := evOpsO_trace hE hwf rest (p + 1) env' hl' h
      refine ⟨fun i => if i = p then env else e i, fun i => if i = p then v else av i, by simp, fun i q hq hne => ?_, fun i hil hij => ?_, ?_⟩
      · cases i with
        | zero =>
          simp at hq
          subst hq
          have e2 : p + 1 ≠ p := by omega
          simp only [Nat.add_zero, e2, if_false, if_true, h1]
          exact hf (by simpa using hne)
        | succ i =>
          have := h2 i q (by simpa using hq) (by omega)
          rw [show p + 1 + i = p + (i + 1) by omega] at this
          have e1 : p + (i + 1) ≠ p := by omega
          have e2 : p + (i + 1) + 1 ≠ p := by omega
          simp only [e1, e2, if_false]
          exact this
      · cases i with
        | zero =>
          have e2 : p + 1 ≠ p := by omega
          simp only [Nat.add_zero, e2, if_false, if_true, h1]
          exact hs (by simpa using hij)
        | succ i =>
          have := h3 i (by simpa using hil) (by omega)
          rw [show p + 1 + i = p + (i + 1) by omega] at this
          have e1 : p + (i + 1) ≠ p := by omega
          have e2 : p + (i + 1) + 1 ≠ p := by omega
          simp only [e1, e2, if_false]
          exact this
      · have e1 : p + (rest.length + 1) ≠ p := by omega
        simp only [List.length_cons, e1, if_false]
        rw [show p + (rest.length + 1) = p + 1 + rest.length by omega]
        exact h4
    simp only [evOpsO] at h
    split at h
    · rename_i hb
      have hpj := Nat.eq_of_beq_eq_true hb
      exact next (v := .junk) (fun hne => absurd hpj hne) (fun _ => rfl) h
    · rename_i hb
      have hpj : p ≠ j0 := fun e => by rw [e] at hb; simp at hb
      rcases scase_out h with ⟨hd, h⟩ | ⟨_, h⟩
      case inr => exact h.elim
      simp only [Bool.and_eq_true, Bool.not_eq_true'] at hd
      obtain ⟨hd, hgd, hcl⟩ := hd
      have hg : o.guard = none := by unfold noG at hgd; split at hgd <;> simp_all
      have hc2 : clsO ops o ≠ 2 := fun e => by rw [e] at hcl; cases hcl
      obtain ⟨v, τ, ⟨⟨ho1, ho2⟩, hk⟩, hf⟩ := fact_run (nt := nt) (σ := ⟨env, O0, N0⟩) (τ := ⟨env, O0, N0⟩) hE hi (fun id ob hx => hwf id ob hx) hd (fun _ _ h => h) rfl rfl (fun O G w a _ => by simp [Region.wanted, hg]) h
      rw [putK_eq] at hk
      obtain ⟨q1, q2, _⟩ := put_st τ o.dst v
      refine next (v := v) (fun _ => ⟨hf.dst, put_env (σ := ⟨env, O0, N0⟩) (τ := ⟨env, O0, N0⟩) (σ' := ⟨env, O0, N0⟩) (fun _ _ h => h) rfl, fun w0 O G w a Kc Q hsub hM hs hK => ?_⟩) (fun e => absurd e hpj) hk
      rcases clsO_le ops o with h0 | h1 | h2
      · obtain ⟨_, _, hga⟩ := hf.a h0
        exact hga O G w a Kc Q hs (fun u hu => hK G u w hM Pres.refl hu (fun _ h => h))
      · refine hf.b h1 w0 O G w a Kc Q (by rw [q1, ho1]; exact hsub) hM hs (fun j hj1 hj2 => by rw [q2, ho2] at hj2; exact absurd hj1 (Nat.not_le_of_lt hj2)) (fun G' u w' hM' hp hu hA => hK G' u w' hM' hp hu (fun j hj => ?_))
        rcases hA j hj with h | h
        · exact h
        · rw [q2, ho2] at h; exact absurd h.1 (Nat.not_le_of_lt h.2)
      · exact absurd h2 hc2

theorem env_atO {O0 : List (Nat × Ob)} {j0 : Nat} {e : Nat → List (Nat × AV)} {av : Nat → AV} (hT : TrO P nt ops O0 j0 e av) : ∀ {j : Nat}, j ≤ ops.size - 1 → ∀ k u, get (e j) k = some u →
    (∃ i o, i < j ∧ i ≠ j0 ∧ ops[i]? = some o ∧ o.dst = some k ∧ u = av i) ∨ ((∀ (i : Nat) o, i < j → i ≠ j0 → ops[i]? = some o → o.dst ≠ some k) ∧ get (e 0) k = some u) := by
  intro j
  induction j with
  | zero => intro _ k u h; exact .inr ⟨fun i o h => by omega, h⟩
  | succ j ih =>
    intro hj k u h
    by_cases e0 : j = j0
    · subst e0
      rw [hT.skip] at h
      rcases ih (by omega) k u h with ⟨i, o, h3, h4⟩ | ⟨h3, h4⟩
      · exact .inl ⟨i, o, by omega, h4⟩
      · exact .inr ⟨fun i o hi hne ho => h3 i o (by omega) hne ho, h4⟩
    · have hjs : j < ops.size := by omega
      rcases (hT.fact j ops[j] (by omega) e0 (by simp)).env k u h with ⟨h1, h2⟩ | ⟨h1, h2⟩
      · exact .inl ⟨j, ops[j], by omega, e0, by simp, h1, h2⟩
      · rcases ih (by omega) k u h2 with ⟨i, o, h3, h4⟩ | ⟨h3, h4⟩
        · exact .inl ⟨i, o, by omega, h4⟩
        · refine .inr ⟨fun i o hi hne ho => ?_, h4⟩
          rcases Nat.lt_or_ge i j with h | h
          · exact h3 i o h hne ho
          · have : i = j := by omega
            subst this
            rw [Array.getElem?_eq_getElem hjs] at ho
            injection ho with ho
            rw [← ho]
            exact h1

structure InvO (w0 : Base) (nt : Nat) (ops : Array Oper) (e0 : List (Nat × AV)) (av : Nat → AV) (O : List (Nat × Ob)) (N : Nat) (listed : Array Bool) (G : Gh) (a : Act) (w : World) : Prop where
  size : listed.size = ops.size
  closed : ∀ (i : Nat) o e, inS listed i → ops[i]? = some o → e ∈ o.after → Region.binds .any e = true → inS listed e.on
  mem : Mem w0 O G w
  laid : ∀ j, G.A j → j < N
  done : ∀ (i : Nat) o k, inS listed i → ops[i]? = some o → o.dst = some k → (av i).rep O G w (a.tmps.getD k undef)
  kept : ∀ k u, get e0 k = some u → (∀ (i : Nat) o, inS listed i → ops[i]? = some o → o.dst ≠ some k) → u.rep O G w (a.tmps.getD k undef)
  tmps : a.tmps.size = nt
  defers : a.defers = []

/-- One operation more. -/
theorem InvO.step {e0 : List (Nat × AV)} {av av' : Nat → AV} {O O' : List (Nat × Ob)} {N N' : Nat} (hd : DrawOKL ops) {listed : Array Bool} {G G' : Gh} {a : Act} {w w' : World} (hI : InvO w0 nt ops e0 av O N listed G a w) {j : Nat} {o : Oper} (ho : ops[j]? = some o) (hj : j ∈ Region.ready .any ops listed)
    (hdn : ∀ d, o.dst = some d → d < nt) (hM : Mem w0 O' G' w') (hp : Pres O G w O' G' w') {v : Value} (hv : (av' j).rep O' G' w' v) (hav : ∀ i, inS listed i → av' i = av i) (hA : ∀ x, G'.A x → x < N') :
    InvO w0 nt ops e0 av' O' N' (listed.setIfInBounds j true) G' (a.put o.dst v) w' := by
  have hjn : j < ops.size := (Array.getElem?_eq_some_iff.1 ho).1
  have hjl : j < listed.size := by rw [hI.size]; exact hjn
  obtain ⟨_, o', ho', hall⟩ := mem_ready.1 hj
  rw [ho] at ho'
  injection ho' with ho'
  subst ho'
  have slot : ∀ {k : Nat}, o.dst ≠ some k → (a.put o.dst v).tmps.getD k undef = a.tmps.getD k undef := by
    intro k hk
    cases hdo : o.dst with
    | none => rfl
    | some d => exact getD_put_other (fun e => hk (by rw [hdo, e]))
  refine ⟨by simp [hI.size], fun i x e hi hx he hb => ?_, hM, hA, fun i x k hi hx hk => ?_, fun k u hu hno => ?_, ?_, ?_⟩
  · rcases inS_set hi with hi | rfl
    · exact inS_set_mono (hI.closed i x e hi hx he hb)
    · rw [ho] at hx
      injection hx with hx
      subst hx
      exact inS_set_mono (hall e he hb)
  · by_cases e : i = j
    · subst e
      rw [ho] at hx
      injection hx with hx
      subst hx
      rw [hk, getD_put_same (by rw [hI.tmps]; exact hdn k hk)]
      exact hv
    · have hi' : inS listed i := (inS_set hi).resolve_right e
      have hne : o.dst ≠ some k := by
        intro hok
        rcases Nat.lt_or_ge i j with h | h
        · exact (hd.pair j i x o h hx ho).1 k hk hok
        · exact (hd.pair i j o x (by omega) ho hx).1 k hok hk
      rw [slot hne, hav i hi']
      exact (av i).rep_pres hp _ (hI.done i x k hi' hx hk)
  · have hne : o.dst ≠ some k := hno j o (getD_set_same hjl) ho
    rw [slot hne]
    exact u.rep_pres hp _ (hI.kept k u hu (fun i x hi hx => hno i x (inS_set_mono hi) hx))
  · rw [← hI.tmps]
    cases o.dst <;> simp [Act.put]
  · rw [← hI.defers]
    cases o.dst <;> rfl
theorem notListed {listed : Array Bool} (hs : listed.size = ops.size) {j : Nat} (hj : j ∈ Region.ready .any ops listed) : ¬ inS listed j := by
  obtain ⟨h1, o, ho, _⟩ := mem_ready.1 hj
  have hjn : j < ops.size := (Array.getElem?_eq_some_iff.1 ho).1
  unfold inS
  rw [Array.getD_eq_getD_getElem?] at h1 ⊢
  rw [Array.getElem?_eq_getElem (by rw [hs]; exact hjn)] at h1 ⊢
  simp at h1 ⊢
  exact h1
theorem some_ready (hd : DrawOKL ops) {listed : Array Bool} (hs : listed.size = ops.size) (hr : Region.ready .any ops listed = []) : ∀ i, i < ops.size → inS listed i := by
  intro i
  induction i using Nat.strongRecOn with
  | ind i ih =>
    intro hi
    by_cases h : inS listed i
    · exact h
    · exfalso
      have : i ∈ Region.ready .any ops listed := mem_ready.2 ⟨by
        unfold inS at h
        rw [Array.getD_eq_getD_getElem?] at h ⊢
        rw [Array.getElem?_eq_getElem (by rw [hs]; exact hi)] at h ⊢
        simpa using h, ops[i], by simp, fun e he hb => by
          have hlt := hd.back i ops[i] e (by simp) he hb
          exact ih e.on hlt (by omega)⟩
      rw [hr] at this
      cases this
theorem none_ready {listed : Array Bool} (hs : listed.size = ops.size) (h : ∀ i, i < ops.size → inS listed i) : Region.ready .any ops listed = [] := by
  refine List.eq_nil_iff_forall_not_mem.2 (fun j hj => ?_)
  obtain ⟨_, o, ho, _⟩ := mem_ready.1 hj
  exact notListed hs hj (h j (Array.getElem?_eq_some_iff.1 ho).1)

theorem draw_one (hd : DrawOKL ops) (hla : LastAll ops) {O0 : List (Nat × Ob)} {j0 dC : Nat} {e : Nat → List (Nat × AV)} {av : Nat → AV} {σ : St} {c : Oper} (hT : TrO P nt ops O0 j0 e av) (he0 : e 0 = σ.env) (hj0 : j0 < ops.size - 1) (hc : ops[j0]? = some c) (hcd : c.dst = some dC) (hdC : dC < nt) (hchk : oneOK ops j0 dC c = true)
    (hsub : ∀ id ob, get O0 id = some ob → get σ.objs id = some ob) {KL : AV → List (Nat × Ob) → Nat → Prop} {K : St → Prop}
    (hcall : ∀ G a w (Kc : Act → World → Prop) (Q : Exit → Act → World → Prop), Mem w0 σ.objs G w → Slots nt ops c (e (ops.size - 1)) σ.objs G w a → (∀ x, G.A x → x < σ.next) →
      (∀ v O' N' G' u w', KL v O' N' → (∀ id ob, get O0 id = some ob → get O' id = some ob) → Mem w0 O' G' w' → Pres σ.objs G w O' G' w' → v.rep O' G' w' u → (∀ x, G'.A x → x < N') → Kc (a.put c.dst u) w') → wpOp P ops Q j0 Kc a w)
    (hlast : ∀ v O' N', KL v O' N' → ∀ o, ops[ops.size - 1]? = some o → ∃ vL σL, Fact P nt ops (ops.size - 1) o ⟨(dC, v) :: e (ops.size - 1), O', N'⟩ vL σL ∧ K σL)
    {Q : Exit → Act → World → Prop} (hQ : ∀ σL G a w, K σL → Rel w0 σL G nt a w → Q .normal a w) :
    ∀ (fuel : Nat) (listed : Array Bool) (O : List (Nat × Ob)) (N : Nat) (avx : Nat → AV) (G : Gh) (a : Act) (w : World), (List.range ops.size).countP (fun i => !listed.getD i false) ≤ fuel → InvO w0 nt ops (e 0) avx O N listed G a w → ¬ inS listed (ops.size - 1) → (∀ id ob, get O0 id = some ob → get O id = some ob) → (∀ i, i ≠ j0 → avx i = av i) →
      ((¬ inS listed j0 ∧ O = σ.objs ∧ N = σ.next) ∨ (inS listed j0 ∧ KL (avx j0) O N)) → wpAny P .any ops Q fuel listed a w := by
  have hsz : 0 < ops.size := by omega
  have hL : ops.size - 1 < ops.size := by omega
  have slotsR : ∀ {listed : Array Bool} {O N avx G a w} {j : Nat} {o : Oper}, InvO w0 nt ops (e 0) avx O N listed G a w → (∀ i, i ≠ j0 → avx i = av i) → ops[j]? = some o → j ∈ Region.ready .any ops listed → j < ops.size - 1 → j ≠ j0 → Slots nt ops o (e j) O G w a := by
    intro listed O N avx G a w j o hI hav ho hj hjL hjj
    have hnj := notListed hI.size hj
    refine ⟨hI.tmps, fun k hk u hu => ?_⟩
    rcases env_atO hT (Nat.le_of_lt hjL) k u hu with ⟨i, x, h1, h0, h2, h3, rfl⟩ | ⟨h1, h2⟩
    · have hcf : conflictL ops x o = true := by simp [conflictL, h3, dstIn, memN_iff.2 hk]
      have := ready_reach hI.closed hj ((hd.pair j i x o h1 h2 ho).2 hcf)
      have hdo := hI.done i x k this h2 h3
      rw [hav i h0] at hdo
      exact ⟨.inl ((hT.fact i x (by omega) h0 h2).dst k h3), hdo⟩
    · refine ⟨hT.lt k u h2, hI.kept k u h2 (fun i x hi hx hdx => ?_)⟩
      by_cases hij : i = j0
      · subst hij
        rw [hc] at hx
        injection hx with hx
        subst hx
        rw [hcd] at hdx
        injection hdx with hdx
        subst hdx
        exact (oneOK_at hchk hjL hjj ho).1 hk
      · rcases Nat.lt_or_ge i j with h | h
        · exact h1 i x h hij hx hdx
        · have hne : i ≠ j := fun e => by subst e; exact hnj hi
          have hcf : conflictL ops o x = true := by simp [conflictL, hdx, dstIn, memN_iff.2 hk]
          exact hnj (reach_in hI.closed ((hd.pair i j o x (by omega) ho hx).2 hcf) hi)
  have slotsC : ∀ {listed : Array Bool} {O N avx G a w}, InvO w0 nt ops (e 0) avx O N listed G a w → (∀ i, i ≠ j0 → avx i = av i) → j0 ∈ Region.ready .any ops listed → ¬ inS listed (ops.size - 1) → Slots nt ops c (e (ops.size - 1)) O G w a := by
    intro listed O N avx G a w hI hav hj hnl
    have hnj := notListed hI.size hj
    refine ⟨hI.tmps, fun k hk u hu => ?_⟩
    rcases env_atO hT (Nat.le_refl _) k u hu with ⟨i, x, h1, h0, h2, h3, rfl⟩ | ⟨h1, h2⟩
    · rcases Nat.lt_or_ge i j0 with hlt | hge
      · have hcf : conflictL ops x c = true := by simp [conflictL, h3, dstIn, memN_iff.2 hk]
        have := ready_reach hI.closed hj ((hd.pair j0 i x c hlt h2 hc).2 hcf)
        have hdo := hI.done i x k this h2 h3
        rw [hav i h0] at hdo
        exact ⟨.inl ((hT.fact i x h1 h0 h2).dst k h3), hdo⟩
      · exact absurd hk ((oneOK_at hchk h1 h0 h2).2 (by omega) k h3)
    · refine ⟨hT.lt k u h2, hI.kept k u h2 (fun i x hi hx hdx => ?_)⟩
      by_cases hij : i = j0
      · exact hnj (hij ▸ hi)
      · have hiL : i ≠ ops.size - 1 := fun e => hnl (e ▸ hi)
        have := (Array.getElem?_eq_some_iff.1 hx).1
        exact h1 i x (by omega) hij hx hdx
  intro fuel
  induction fuel with
  | zero =>
    intro listed O N avx G a w hcn hI hnl _ _ _
    exfalso
    have h0 : (List.range ops.size).countP (fun i => !listed.getD i false) = 0 := by omega
    have := List.countP_eq_zero.1 h0 (ops.size - 1) (by simp; omega)
    apply hnl
    unfold inS
    cases hb : listed.getD (ops.size - 1) false with
    | true => rfl
    | false => rw [hb] at this; simp at this
  | succ fuel ih =>
    intro listed O N avx G a w hcn hI hnl hsubO hav hmode
    refine ⟨fun hr => absurd (some_ready hd hI.size hr _ hL) hnl, fun j hj => ?_⟩
    obtain ⟨hun, o, ho, hdep⟩ := mem_ready.1 hj
    have hjn : j < ops.size := (Array.getElem?_eq_some_iff.1 ho).1
    have hjl : j < listed.size := by rw [hI.size]; exact hjn
    have hnj := notListed hI.size hj
    have hcnt : (List.range ops.size).countP (fun i => !(listed.setIfInBounds j true).getD i false) ≤ fuel := by
      have := countP_lt (p := fun i => !listed.getD i false) (q := fun i => !(listed.setIfInBounds j true).getD i false) (l := List.range ops.size) (x := j) (fun y _ hy => by
        by_cases h : inS listed y
        · have := inS_set_mono (i := j) h
          unfold inS at this
          rw [this] at hy
          cases hy
        · unfold inS at h
          cases hb : listed.getD y false with
          | true => exact absurd hb h
          | false => rfl) (by simp [hjn]) (by unfold inS at hnj; cases hb : listed.getD j false with | true => exact absurd hb hnj | false => rfl)
          (by have := getD_set_same hjl; unfold inS at this; simp [this])
      omega
    by_cases hjL : j = ops.size - 1
    · -- the last
      subst hjL
      obtain ⟨x, hx, _, hall⟩ := hla hsz
      have hlist : ∀ i, i < ops.size - 1 → inS listed i := fun i hi => ready_reach hI.closed hj (hall i hi)
      rcases hmode with ⟨hm, _⟩ | ⟨_, hk⟩
      · exact absurd (hlist j0 hj0) hm
      obtain ⟨vL, σL, hf, hkL⟩ := hlast _ _ _ hk o ho
      have hrep : ∀ k u, get ((dC, avx j0) :: e (ops.size - 1)) k = some u → (k < nt ∨ isFrm u = true) ∧ u.rep O G w (a.tmps.getD k undef) := by
        intro k u hu
        by_cases hkd : k = dC
        · subst hkd
          rw [get_cons_same] at hu
          injection hu with hu
          subst hu
          exact ⟨.inl hdC, hI.done j0 c k (hlist j0 hj0) hc hcd⟩
        · rw [get_cons_other _ _ _ _ hkd] at hu
          rcases env_atO hT (Nat.le_refl _) k u hu with ⟨i, x, h1, h0, h2, h3, rfl⟩ | ⟨h1, h2⟩
          · have hdo := hI.done i x k (hlist i h1) h2 h3
            rw [hav i h0] at hdo
            exact ⟨.inl ((hT.fact i x h1 h0 h2).dst k h3), hdo⟩
          · refine ⟨hT.lt k u h2, hI.kept k u h2 (fun i x hi hx hdx => ?_)⟩
            by_cases hij : i = j0
            · subst hij
              rw [hc] at hx
              injection hx with hx
              subst hx
              rw [hcd] at hdx
              injection hdx with hdx
              exact hkd hdx.symm
            · have hiL : i ≠ ops.size - 1 := fun e => hnl (e ▸ hi)
              have := (Array.getElem?_eq_some_iff.1 hx).1
              exact h1 i x (by omega) hij hx hdx
      rw [ho] at hx
      injection hx with hx
      subst hx
      refine hf.e (by assumption) w0 G w a _ Q hI.mem ⟨hI.tmps, fun k _ u hu => hrep k u hu⟩ hI.laid (fun G' u w' hM' hp hu hA => ?_)
      have slot : ∀ {k : Nat}, o.dst ≠ some k → (a.put o.dst u).tmps.getD k undef = a.tmps.getD k undef := by
        intro k hk
        cases hdo : o.dst with
        | none => rfl
        | some d => exact getD_put_other (fun e => hk (by rw [hdo, e]))
      have hq : Q .normal (a.put o.dst u) w' := by
        refine hQ σL G' _ w' hkL ⟨hM', fun k v hv => ?_, fun k v hv => ?_, ?_, hA, hf.wf, ?_⟩
        · rcases hf.env k v hv with ⟨h1, rfl⟩ | ⟨h1, h2⟩
          · rw [h1, getD_put_same (by rw [hI.tmps]; exact hf.dst k h1)]
            exact hu
          · rw [slot h1]
            exact v.rep_pres hp _ (hrep k v h2).2
        · rcases hf.env k v hv with ⟨h1, _⟩ | ⟨_, h2⟩
          · exact .inl (hf.dst k h1)
          · exact (hrep k v h2).1
        · rw [← hI.tmps]
          cases o.dst <;> simp [Act.put]
        · rw [← hI.defers]
          cases o.dst <;> rfl
      have hno : Region.ready .any ops (listed.setIfInBounds (ops.size - 1) true) = [] := none_ready (by simp [hI.size]) (fun i hi => by
        by_cases ei : i = ops.size - 1
        · subst ei; exact getD_set_same hjl
        · exact inS_set_mono (hlist i (by omega)))
      cases fuel with
      | zero => exact ⟨hno, hq⟩
      | succ fuel => exact ⟨fun _ => hq, fun i hi => by rw [hno] at hi; cases hi⟩
    · have hjL' : j < ops.size - 1 := by omega
      have hnl' : ¬ inS (listed.setIfInBounds j true) (ops.size - 1) := fun h => (inS_set h).elim hnl (fun e => hjL e.symm)
      by_cases hjj : j = j0
      · -- the call
        subst hjj
        rw [hc] at ho
        injection ho with ho
        subst ho
        rcases hmode with ⟨_, rfl, rfl⟩ | ⟨hm, _⟩
        case inr => exact absurd hm hnj
        refine hcall G a w _ Q hI.mem (slotsC hI hav hj hnl) hI.laid (fun v O' N' G' u w' hkl hso hM' hp hu hA => ?_)
        refine ih _ O' N' (fun i => if i = j then v else avx i) G' _ w' hcnt (hI.step (N' := N') hd hc hj (fun d hdd => by rw [hcd] at hdd; injection hdd with hdd; rw [← hdd]; exact hdC) hM' hp (by simpa using hu) (fun i hi => if_neg (fun (h : i = j) => hnj (h ▸ hi))) hA) hnl' hso (fun i hi => by rw [if_neg hi]; exact hav i hi) (.inr ⟨getD_set_same hjl, by simpa using hkl⟩)
      · -- one that reads
        have hf := hT.fact j o hjL' hjj ho
        refine hf.run w0 O G w a _ Q hsubO hI.mem (slotsR hI hav ho hj hjL' hjj) (fun G' u w' hM' hp hu hA => ?_)
        refine ih _ O N avx G' _ w' hcnt (hI.step (N' := N) hd ho hj hf.dst hM' hp (by rw [hav j hjj]; exact hu) (fun _ _ => rfl) (fun x hx => hI.laid x (hA x hx))) hnl' hsubO hav ?_
        rcases hmode with ⟨hm, h2⟩ | ⟨hm, h2⟩
        · exact .inl ⟨fun h => (inS_set h).elim hm (fun e => hjj e.symm), h2⟩
        · exact .inr ⟨inS_set_mono hm, h2⟩

/-- The region, by the evaluation of what reads, of the call, of the last. -/
theorem regAt_one (hE : TOk P E) (hm : P.follows .mixedOrders = true) {id : Nat} {K : St → Prop} {σ : St} (j0 dC : Nat) (D : List Nat) (c l : Oper) (hd : drawOKL ops = true) (hla : lastAll ops = true) (hj0 : Nat.blt j0 (ops.size - 1) = true) (hc : ops[j0]? = some c) (hl : ops[ops.size - 1]? = some l) (hcd : c.dst = some dC) (hdC : Nat.blt dC nt = true) (hcg : noG c = true) (hlg : (dstOk nt l.dst && noG l) = true) (hchk : oneOK ops j0 dC c = true)
    (h : evOpsO P E nt (delL σ.objs D) σ.next ops j0 0 (ops.toList.take (ops.size - 1)) (fun env => match c.op with
      | .call { callee := .value f, args, argTypes := _ } => opI P (val env) f args ⟨env, σ.objs, σ.next⟩ (fun v σ' => frmL σ'.objs (delL σ.objs D) ∧ putK σ' (some dC) v fun σ1 => evOpF P E false (frO false ops l) l.op σ1 fun v2 σ2 => putK σ2 l.dst v2 K)
      | _ => False) σ.env) : RegAt P nt (.region id ops true) K σ := by
  intro w0 G a w hR
  have hd' := drawOKL_spec hd
  have hj0' : j0 < ops.size - 1 := by
    have : j0 + 1 ≤ ops.size - 1 := by simpa [Nat.blt] using hj0
    omega
  have hdC' : dC < nt := by
    have : dC + 1 ≤ nt := by simpa [Nat.blt] using hdC
    omega
  have hsub : ∀ id ob, get (delL σ.objs D) id = some ob → get σ.objs id = some ob := fun _ _ hx => delL_get hx
  have hgc : c.guard = none := by unfold noG at hcg; split at hcg <;> simp_all
  rw [Bool.and_eq_true] at hlg
  have hgl : l.guard = none := by have := hlg.2; unfold noG at this; split at this <;> simp_all
  obtain ⟨e, av, h1, h2, h3, h4⟩ := evOpsO_trace (ops := ops) hE (fun id ob hx => hR.wf id ob (hsub id ob hx)) (ops.toList.take (ops.size - 1)) 0 σ.env (fun i o hi => by
    have hi' := hi
    rw [List.getElem?_take] at hi'
    split at hi'
    · simpa using hi'
    · cases hi') h
  have hlen : (ops.toList.take (ops.size - 1)).length = ops.size - 1 := by simp
  rw [hlen, Nat.zero_add] at h4
  have hT : TrO P nt ops (delL σ.objs D) j0 e av := by
    refine ⟨?_, fun i o hi hne ho => ?_, fun k u hu => by rw [h1] at hu; exact hR.lt k u hu⟩
    · have := h3 j0 (by rw [hlen]; exact hj0') (by omega)
      simpa using this
    · have := h2 i o (by rw [List.getElem?_take, if_pos hi]; simpa using ho) (by omega)
      simpa using this
  refine wp_mono (Q := Post w0 nt fun e σ' => e = .normal ∧ K σ') (wp_region_any hm ?_) ?_
  case refine_2 =>
    rintro e a' w' ⟨ex, σ', G', rfl, ⟨rfl, hk⟩, hR'⟩
    exact ⟨rfl, σ', G', hk, hR'⟩
  have hM0 : Mem w0 σ.objs G { w with drawn := w.drawn + 1 } ∧ Pres σ.objs G w σ.objs G { w with drawn := w.drawn + 1 } :=
    hR.mem.step (fun id => Lv σ.objs G id) (fun _ => False) (fun id h => ⟨h, rfl⟩) ⟨rfl, rfl⟩ (fun id h => ⟨h, rfl, rfl, rfl⟩) (fun id h => .inl h) rfl rfl rfl (Nat.le_refl _) (fun b _ _ => rfl)
      (fun _ h => h.elim) (fun _ _ h => h.elim) (fun _ h => h.elim) (fun _ h => h.elim) (fun _ _ h => h.elim)
  have no : ∀ i, ¬ inS (Array.replicate ops.size false) i := fun i h => by
    unfold inS at h
    rw [Array.getD_eq_getD_getElem?, Array.getElem?_replicate] at h
    split at h <;> simp at h
  obtain ⟨dst, op, type, pos, after, guard⟩ := c
  simp only at hgc hcd h4
  subst hgc
  cases op with
  | call cc =>
    obtain ⟨cal, args, argTypes⟩ := cc
    cases cal with
    | value f =>
      simp only at h4
      have h' := need_some h4
      obtain ⟨vf, ef, h5⟩ := h'
      split at h5
      · rename_i fid
        obtain ⟨avs, eavs, hent, hin⟩ := need_some h5
        refine draw_one (σ := σ) (O0 := delL σ.objs D) (K := K) (KL := fun v O' N' => St.wf ⟨(dC, v) :: e (ops.size - 1), O', N'⟩ ∧ evOpF P E false (frO false ops l) l.op ⟨(dC, v) :: e (ops.size - 1), O', N'⟩ fun v2 σ2 => K (σ2.put l.dst v2)) hd' (lastAll_iff hla) hT h1 hj0' hc hcd hdC' hchk hsub ?_ ?_ (fun σL G' a' w' hk hR' => ⟨.normal, σL, G', rfl, ⟨rfl, hk⟩, hR'⟩) ops.size _ σ.objs σ.next av G a _ ?_ ⟨by simp, fun i o e hi => absurd hi (no i), hM0.1, hR.fresh, fun i o k hi => absurd hi (no i), fun k u hu _ => ?_, hR.size, hR.defers⟩ (no _) hsub (fun _ _ => rfl) (.inl ⟨no _, rfl, rfl⟩)
        · intro G1 a1 w1 Kc Q hM1 hs1 hf1 hK
          have hops := hs1.opsRep
          obtain ⟨e1, _⟩ := hops f (by simp [Op.operands, Call.operands]) _ ef
          have hargs := vals_rep (O := σ.objs) (G := G1) (w := w1) (a := a1) eavs (fun x hx => hops x (by simp only [Op.operands, Call.operands]; simp [Array.mem_toList_iff.1 hx]))
          have hrun := run_call (P := P) (dst := dst) (type := type) (pos := pos) (after := after) (guard := none) hent (fo := f) (args := args) (argTypes := argTypes) (a := a1) (caps := []) (by simpa using e1) w1
          unfold wpOp
          simp only [hc, Region.wanted, if_true]
          left
          unfold Oper.wp
          rw [hrun]
          show Calls P fid _ w1 _
          rw [List.append_nil]
          refine hin w0 G1 w1 _ _ hM1 hR.wf hargs hf1 (fun v objs' next' G' u w' hk hwf hM' hp hu hf => ?_)
          obtain ⟨hfr, hk⟩ := hk
          simp only [putK_eq, St.put] at hk
          exact hK v objs' next' G' u w' ⟨hwf, hk⟩ (fun _ _ hx => frmL_get hfr hx) hM' hp hu hf
        · intro v O' N' ⟨hwf, hk⟩ o ho
          rw [hl] at ho
          injection ho with ho
          subst ho
          obtain ⟨vL, σ2, hk2, hf⟩ := fact_run (nt := nt) (σ := ⟨(dC, v) :: e (ops.size - 1), O', N'⟩) (τ := ⟨(dC, v) :: e (ops.size - 1), O', N'⟩) hE hl hwf hlg.1 (fun _ _ h => h) rfl rfl (fun O G w a _ => by simp [Region.wanted, hgl]) hk
          exact ⟨vL, _, hf, hk2⟩
        · exact Nat.le_trans List.countP_le_length (by simp)
        · rw [h1] at hu
          exact u.rep_pres hM0.2 _ (hR.env k u hu)
      · exact h5.elim
    | _ => exact h4.elim
  | _ => exact h4.elim
end
end Go.Vm
