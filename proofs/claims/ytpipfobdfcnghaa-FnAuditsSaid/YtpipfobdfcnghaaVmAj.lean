/-
  A drawn region whose operations are renumbered: what holds in every order of the renumbered ones holds in every order.
  A drawn region in which a slice does not wait for an append to what the region itself has made.
  The same, in a region that calls with a pointer to a box: loads and slices do not wait for what changes other objects.
  Conditions: the table of types fits the program ('TOk').
-/
import Derived.Test.YtpipfobdfcnghaaVmSd
namespace Go.Vm
open Go.RowKit

def permEdge (f : List Nat) (e : Edge) : Edge := ⟨f.getD e.on 0, e.ground⟩
def permOp (f : List Nat) (o : Oper) : Oper := ⟨o.dst, o.op, o.type, o.pos, ⟨o.after.toList.map (permEdge f)⟩, o.guard⟩
def pick (l : List Oper) : List Nat → List Oper
  | [] => []
  | i :: r => match l[i]? with
    | some o => o :: pick l r
    | none => pick l r
def permO (π f : List Nat) (ops : Array Oper) : Array Oper := ⟨(pick ops.toList π).map (permOp f)⟩
def allB : Nat → (Nat → Bool) → Bool
  | 0, _ => true
  | n + 1, p => p n && allB n p
theorem allB_iff {p : Nat → Bool} : ∀ {n : Nat}, allB n p = true → ∀ i, i < n → p i = true
  | 0, _, i, h => absurd h (Nat.not_lt_zero _)
  | n + 1, h, i, hi => by
    simp only [allB, Bool.and_eq_true] at h
    by_cases e : i = n
    · rw [e]; exact h.1
    · exact allB_iff h.2 i (by omega)
def invB (n : Nat) (π f : List Nat) : Bool := Nat.beq f.length n && allB n fun i => match f[i]? with
  | some p => Nat.blt p n && (match π[p]? with
    | some j => Nat.beq j i
    | none => false)
  | none => false
theorem invB_spec {n : Nat} {π f : List Nat} (h : invB n π f = true) : f.length = n ∧ ∀ i, i < n → ∃ p, f[i]? = some p ∧ p < n ∧ π[p]? = some i := by
  simp only [invB, Bool.and_eq_true] at h
  refine ⟨Nat.eq_of_beq_eq_true h.1, fun i hi => ?_⟩
  have h2 := allB_iff h.2 i hi
  split at h2
  · rename_i p hp
    simp only [Bool.and_eq_true] at h2
    obtain ⟨h3, h4⟩ := h2
    split at h4
    · rename_i j hj
      have := Nat.eq_of_beq_eq_true h4
      subst this
      exact ⟨p, hp, Nat.le_of_ble_eq_true h3, hj⟩
    · cases h4
  · cases h2
def plainB (n : Nat) : List Oper → Bool
  | [] => true
  | o :: r => (match o.guard with
    | none => o.after.toList.all fun e => Nat.blt e.on n
    | some _ => false) && plainB n r
theorem plainB_spec {n : Nat} : ∀ {l : List Oper}, plainB n l = true → ∀ o ∈ l, o.guard = none ∧ ∀ e ∈ o.after, e.on < n
  | [], _, o, ho => by cases ho
  | x :: r, h, o, ho => by
    simp only [plainB, Bool.and_eq_true] at h
    rcases List.mem_cons.1 ho with rfl | ho
    · obtain ⟨h1, _⟩ := h
      split at h1
      · rename_i hg
        refine ⟨hg, fun e he => ?_⟩
        exact Nat.le_of_ble_eq_true (List.all_eq_true.1 h1 e (by simpa using he))
      · cases h1
    · exact plainB_spec h.2 o ho
def permOK (π f : List Nat) (ops : Array Oper) : Bool := invB ops.toList.length π f && (invB ops.toList.length f π && plainB ops.toList.length ops.toList)

theorem pick_get {l : List Oper} : ∀ {π : List Nat}, (∀ i ∈ π, i < l.length) → ∀ p : Nat, (pick l π)[p]? = (π[p]?).bind fun i => l[i]?
  | [], _, p => by simp [pick]
  | i :: r, h, p => by
    have hi := h i (by simp)
    simp only [pick, List.getElem?_eq_getElem hi]
    cases p with
    | zero => simp [List.getElem?_eq_getElem hi]
    | succ p => simpa using pick_get (l := l) (π := r) (fun j hj => h j (by simp [hj])) p

section
variable {P : Program} {ops : Array Oper} {π f : List Nat} {Q : Exit → Act → World → Prop}
structure PermF (π f : List Nat) (ops : Array Oper) : Prop where
  to : ∀ i : Nat, i < ops.size → ∃ p, f[i]? = some p ∧ p < ops.size ∧ π[p]? = some i
  fro : ∀ p : Nat, p < ops.size → ∃ i, π[p]? = some i ∧ i < ops.size ∧ f[i]? = some p
  size : (permO π f ops).size = ops.size
  len : f.length = ops.size
  get : ∀ (p i : Nat) o, π[p]? = some i → ops[i]? = some o → (permO π f ops)[p]? = some (permOp f o)
  guard : ∀ (i : Nat) o, ops[i]? = some o → o.guard = none ∧ ∀ e ∈ o.after, e.on < ops.size

theorem permOK_spec (h : permOK π f ops = true) : PermF π f ops := by
  simp only [permOK, Bool.and_eq_true] at h
  obtain ⟨h1, h2, h3⟩ := h
  obtain ⟨hf, h1⟩ := invB_spec h1
  obtain ⟨hπ, h2⟩ := invB_spec h2
  have hin : ∀ i ∈ π, i < ops.toList.length := by
    intro i hi
    obtain ⟨p, hp, rfl⟩ := List.mem_iff_getElem.1 hi
    obtain ⟨j, hj, hj2, _⟩ := h2 p (by omega)
    rw [List.getElem?_eq_getElem hp] at hj
    injection hj with hj
    omega
  have hget : ∀ (p i : Nat) o, π[p]? = some i → ops[i]? = some o → (permO π f ops)[p]? = some (permOp f o) := by
    intro p i o hp ho
    show ((⟨(pick ops.toList π).map (permOp f)⟩ : Array Oper))[p]? = _
    rw [List.getElem?_toArray, List.getElem?_map, pick_get hin, hp]
    simp [ho]
  refine ⟨by simpa using h1, by simpa using h2, ?_, by simpa using hf, hget, fun i o ho => ?_⟩
  · have key : ∀ {π : List Nat}, (∀ i ∈ π, i < ops.toList.length) → (pick ops.toList π).length = π.length := by
      intro π
      induction π with
      | nil => intro _; rfl
      | cons i r ih =>
        intro h
        have hi := h i (by simp)
        simp only [pick, List.getElem?_eq_getElem hi, List.length_cons, ih (fun j hj => h j (by simp [hj]))]
    show ((pick ops.toList π).map (permOp f)).length = _
    rw [List.length_map, key hin, hπ]
    simp
  · obtain ⟨hlt, e⟩ := Array.getElem?_eq_some_iff.1 ho
    have hm : o ∈ ops.toList := by rw [← e]; simp
    have := plainB_spec h3 o hm
    simpa using this

theorem permOp_wp {o : Oper} {a : Act} {w : World} {K : Act → World → Prop} (h : (permOp f o).wp P a w K Q ∨ ((permOp f o).asks P a w ∧ LetsOut Q)) : o.wp P a w K Q ∨ (o.asks P a w ∧ LetsOut Q) := by
  obtain ⟨dst, op, type, pos, after, guard⟩ := o
  exact h

theorem wpAny_perm (hF : PermF π f ops) : ∀ (fuel : Nat) (listed listed' : Array Bool) (a : Act) (w : World), listed.size = ops.size → listed'.size = ops.size →
    (∀ i p : Nat, f[i]? = some p → listed.getD i false = listed'.getD p false) → wpAny P .any (permO π f ops) Q fuel listed' a w → wpAny P .any ops Q fuel listed a w := by
  have hr : ∀ (listed listed' : Array Bool), listed.size = ops.size → listed'.size = ops.size → (∀ i p : Nat, f[i]? = some p → listed.getD i false = listed'.getD p false) →
      ∀ j p : Nat, f[j]? = some p → p < ops.size → π[p]? = some j → j < ops.size → (j ∈ Region.ready .any ops listed ↔ p ∈ Region.ready .any (permO π f ops) listed') := by
    intro listed listed' hs hs' hl j p hj hp hpj hjs
    have e0 : listed.getD j true = listed'.getD p true := by
      have := hl j p hj
      rw [Array.getD_eq_getD_getElem?, Array.getD_eq_getD_getElem?, Array.getElem?_eq_getElem (by omega), Array.getElem?_eq_getElem (by omega)] at this ⊢
      exact this
    have ho : ops[j]? = some ops[j] := by simp
    have ho' := hF.get p j _ hpj ho
    rw [mem_ready, mem_ready, e0]
    refine and_congr_right fun _ => ⟨fun ⟨o, h1, h2⟩ => ⟨_, ho', fun e' he' hb => ?_⟩, fun ⟨o', h1, h2⟩ => ⟨_, ho, fun e he hb => ?_⟩⟩
    · rw [ho] at h1; injection h1 with h1; subst h1
      have he2 : e' ∈ ops[j].after.toList.map (permEdge f) := by simpa [permOp] using he'
      obtain ⟨e, he, rfl⟩ := List.mem_map.1 he2
      have hlt := (hF.guard j _ ho).2 e (by simpa using he)
      obtain ⟨q, hq, _⟩ := hF.to e.on hlt
      have := h2 e (by simpa using he) hb
      rw [hl e.on q hq] at this
      show listed'.getD (f.getD e.on 0) false = true
      rw [List.getD_eq_getElem?_getD, hq]
      exact this
    · rw [ho'] at h1; injection h1 with h1; subst h1
      have hlt := (hF.guard j _ ho).2 e he
      obtain ⟨q, hq, _⟩ := hF.to e.on hlt
      have hm : permEdge f e ∈ (permOp f ops[j]).after := by
        show permEdge f e ∈ (⟨ops[j].after.toList.map (permEdge f)⟩ : Array Edge)
        simpa using ⟨e, by simpa using he, rfl⟩
      have := h2 (permEdge f e) hm hb
      have e1 : (permEdge f e).on = q := by show f.getD e.on 0 = q; rw [List.getD_eq_getElem?_getD, hq]; rfl
      rw [e1, ← hl e.on q hq] at this
      exact this
  have hnil : ∀ (listed listed' : Array Bool), listed.size = ops.size → listed'.size = ops.size → (∀ i p : Nat, f[i]? = some p → listed.getD i false = listed'.getD p false) →
      Region.ready .any ops listed = [] → Region.ready .any (permO π f ops) listed' = [] := by
    intro listed listed' hs hs' hl h
    refine List.eq_nil_iff_forall_not_mem.2 fun p hp => ?_
    obtain ⟨_, o, h1, _⟩ := mem_ready.1 hp
    have hlt : p < ops.size := by rw [← hF.size]; exact (Array.getElem?_eq_some_iff.1 h1).1
    obtain ⟨i, h2, h3, h4⟩ := hF.fro p hlt
    have := (hr listed listed' hs hs' hl i p h4 hlt h2 h3).2 hp
    rw [h] at this
    cases this
  intro fuel
  induction fuel with
  | zero =>
    intro listed listed' a w hs hs' hl h
    refine ⟨?_, h.2⟩
    refine List.eq_nil_iff_forall_not_mem.2 fun j hj => ?_
    obtain ⟨_, o, h1, _⟩ := mem_ready.1 hj
    have hlt := (Array.getElem?_eq_some_iff.1 h1).1
    obtain ⟨p, h2, h3, h4⟩ := hF.to j hlt
    have := (hr listed listed' hs hs' hl j p h2 h3 h4 hlt).1 hj
    rw [h.1] at this
    cases this
  | succ fuel ih =>
    intro listed listed' a w hs hs' hl h
    refine ⟨fun h0 => h.1 (hnil listed listed' hs hs' hl h0), fun j hj => ?_⟩
    obtain ⟨_, o, ho, _⟩ := mem_ready.1 hj
    have hlt := (Array.getElem?_eq_some_iff.1 ho).1
    obtain ⟨p, h2, h3, h4⟩ := hF.to j hlt
    have h5 := h.2 p ((hr listed listed' hs hs' hl j p h2 h3 h4 hlt).1 hj)
    have h6 : wpOp P (permO π f ops) Q p (wpAny P .any ops Q fuel (listed.setIfInBounds j true)) a w := by
      refine wpOp_mono (fun a' w' hh => ih _ _ a' w' (by simpa using hs) (by simpa using hs') (fun i q hq => ?_) hh) h5
      by_cases e : i = j
      · subst e
        rw [h2] at hq; injection hq with hq; subst hq
        rw [Array.getD_eq_getD_getElem?, Array.getD_eq_getD_getElem?, Array.getElem?_setIfInBounds_self_of_lt (by omega), Array.getElem?_setIfInBounds_self_of_lt (by omega)]
      · have hne : p ≠ q := by
          intro e2
          subst e2
          have hi : i < ops.size := by
            rw [← hF.len]; exact (List.getElem?_eq_some_iff.1 hq).1
          obtain ⟨q2, h7, h8, h9⟩ := hF.to i hi
          rw [hq] at h7; injection h7 with h7; subst h7
          rw [h4] at h9; injection h9 with h9; exact e h9.symm
        rw [Array.getD_eq_getD_getElem?, Array.getD_eq_getD_getElem?, Array.getElem?_setIfInBounds_ne (Ne.symm e), Array.getElem?_setIfInBounds_ne hne]
        have := hl i q hq
        rw [Array.getD_eq_getD_getElem?, Array.getD_eq_getD_getElem?] at this
        exact this
    unfold wpOp at h6 ⊢
    rw [hF.get p j o h4 ho] at h6
    rw [ho]
    have g1 : Region.wanted (permOp f o) (yielded (permO π f ops) a.tmps) = true := by
      unfold Region.wanted
      have : (permOp f o).guard = none := (hF.guard j o ho).1
      rw [this]
    have g2 : Region.wanted o (yielded ops a.tmps) = true := by
      unfold Region.wanted
      rw [(hF.guard j o ho).1]
    simp only [g1, g2, if_true] at h6 ⊢
    exact permOp_wp h6
end

section
variable {P : Program} {E : Nat → Option TI}
/-- A drawn region by the evaluation of its operations in another order. -/
theorem regAt_perm (hE : TOk P E) (hm : P.follows .mixedOrders = true) {nt id : Nat} {ops : Array Oper} {K : St → Prop} {σ : St} (π f : List Nat) (hp : permOK π f ops = true) (hd : drawOK (permO π f ops) = true)
    (h : evOps P E nt false (permO π f ops) (permO π f ops).toList K σ) : RegAt P nt (.region id ops true) K σ := by
  intro w0 G a w hR
  have hF := permOK_spec hp
  refine wp_mono (Q := Post w0 nt fun e σ' => e = .normal ∧ K σ') (wp_region_any hm ?_) ?_
  · have h1 := draw_wpAny hE nt w0 (permO π f ops) K σ G a w hd h hR
    rw [hF.size] at h1
    refine wpAny_perm hF _ _ _ _ _ (by simp) (by simp) (fun i p _ => ?_) h1
    have no : ∀ i, (Array.replicate ops.size false).getD i false = false := fun i => by
      rw [Array.getD_eq_getD_getElem?, Array.getElem?_replicate]
      split <;> rfl
    rw [no, no]
  · rintro e a' w' ⟨ex, σ', G', rfl, ⟨rfl, hk⟩, hR'⟩
    exact ⟨rfl, σ', G', hk, hR'⟩
end
end Go.Vm

namespace Go.Vm
open Go.RowKit

def isLite : Op → Bool
  | .slice .. | .load .. => true
  | _ => false
def conflictL (ops : Array Oper) (x y : Oper) : Bool :=
  (isVal x.op && isVal y.op) ||
  (  dstIn x.dst (y.looksAt ops) || (dstIn y.dst (x.looksAt ops) || bif isLite x.op || isLite y.op then false else bif Nat.beq (clsO ops x) 2 then !Nat.beq (clsO ops y) 0 else (Nat.beq (clsO ops y) 2 && !Nat.beq (clsO ops x) 0)))
def pairsOKL (ops : Array Oper) (m : Nat) (y : Oper) : Nat → List Oper → Bool
  | _, [] => true
  | j, x :: r => (!sameDst x.dst y.dst && (!conflictL ops x y || Nat.testBit m j)) && pairsOKL ops m y (j + 1) r
def allOKL (ops : Array Oper) (T : List Nat) : Nat → List Oper → List Oper → Bool
  | _, _, [] => true
  | i, pre, y :: r => ((match T[i]? with | some m => pairsOKL ops m y 0 pre | none => false) && (!dstIn y.dst (y.looksAt ops) && (y.after.toList.all fun e => !Region.binds .any e || Nat.blt e.on i))) && allOKL ops T (i + 1) (pre ++ [y]) r
def drawOKL (ops : Array Oper) : Bool := allOKL ops (masks ops.toList []) 0 [] ops.toList
/-- The old objects are as they were. -/
def frmO (O O' : List (Nat × Ob)) : Nat → Prop
  | 0 => True
  | n + 1 => get O' n = get O n ∧ frmO O O' n
theorem frmO_iff {O O' : List (Nat × Ob)} : ∀ {n : Nat}, frmO O O' n → ∀ id, id < n → get O' id = get O id
  | 0, _, id, h => absurd h (Nat.not_lt_zero _)
  | n + 1, h, id, hi => by
    by_cases e : id = n
    · rw [e]; exact h.1
    · exact frmO_iff h.2 id (by omega)
def evOpsL (P : Program) (E : Nat → Option TI) (nt : Nat) (O0 : List (Nat × Ob)) (n0 : Nat) (ops : Array Oper) : List Oper → (St → Prop) → St → Prop
  | [], K, σ => K σ
  | o :: rest, K, σ => scase (dstOk nt o.dst && noG o) (match isLite o.op with
    | true => evOpF P E false (frO false ops o) o.op ⟨σ.env, O0, σ.next⟩ fun v τ => (τ.objs = O0 ∧ τ.next = σ.next) ∧ putK σ o.dst v (evOpsL P E nt O0 n0 ops rest K)
    | false => evOpF P E false (frO false ops o) o.op σ fun v σ' => frmO O0 σ'.objs n0 ∧ putK σ' o.dst v (evOpsL P E nt O0 n0 ops rest K)) False

structure DrawOKL (ops : Array Oper) : Prop where
  pair : ∀ (i j : Nat) (x y : Oper), j < i → ops[j]? = some x → ops[i]? = some y → (∀ d, x.dst = some d → y.dst ≠ some d) ∧ (conflictL ops x y = true → Reach ops i j)
  self : ∀ (i : Nat) (y : Oper) (d : Nat), ops[i]? = some y → y.dst = some d → d ∉ y.looksAt ops
  back : ∀ (i : Nat) (y : Oper) (e : Edge), ops[i]? = some y → e ∈ y.after → Region.binds .any e = true → e.on < i

theorem pairsOKL_spec {ops : Array Oper} {m : Nat} {y : Oper} : ∀ {l : List Oper} {j : Nat}, pairsOKL ops m y j l = true → ∀ k x, l[k]? = some x → sameDst x.dst y.dst = false ∧ (conflictL ops x y = true → m.testBit (j + k) = true)
  | [], j, _, k, x, h => by simp at h
  | z :: r, j, h, k, x, hk => by
    simp only [pairsOKL, Bool.and_eq_true, Bool.or_eq_true, Bool.not_eq_true'] at h
    obtain ⟨⟨h1, h2⟩, h3⟩ := h
    cases k with
    | zero =>
      simp at hk
      subst hk
      exact ⟨h1, fun hc => by rcases h2 with h2 | h2 <;> simp_all⟩
    | succ k =>
      have := pairsOKL_spec h3 k x (by simpa using hk)
      rw [show j + (k + 1) = j + 1 + k by omega]
      exact this

theorem drawOKL_spec {ops : Array Oper} (h : drawOKL ops = true) : DrawOKL ops := by
  unfold drawOKL at h
  have hreach := masks_reach (ops := ops) ops.toList [] (fun i o hi => by simpa using hi) (fun i x j hi => by simp at hi)
  generalize masks ops.toList [] = T at h hreach
  have key : ∀ (l pre : List Oper) (i : Nat), pre.length = i → pre ++ l = ops.toList → allOKL ops T i pre l = true → ∀ k y, l[k]? = some y →
      (∃ m, T[i + k]? = some m ∧ ∀ j x, j < i + k → ops[j]? = some x → sameDst x.dst y.dst = false ∧ (conflictL ops x y = true → m.testBit j = true)) ∧ dstIn y.dst (y.looksAt ops) = false ∧
        ∀ e ∈ y.after, Region.binds .any e = true → e.on < i + k := by
    intro l
    induction l with
    | nil => intro pre i _ _ _ k y hk; simp at hk
    | cons z r ih =>
      intro pre i hpl happ hok k y hk
      simp only [allOKL, Bool.and_eq_true] at hok
      obtain ⟨⟨h1, h2, h3⟩, h4⟩ := hok
      cases k with
      | zero =>
        simp at hk
        subst hk
        refine ⟨?_, by simpa using h2, fun e he hb => ?_⟩
        · split at h1
          · rename_i m hm
            refine ⟨m, hm, fun j x hj hx => ?_⟩
            have hpj : pre[j]? = some x := by
              rw [← Array.getElem?_toList, ← happ, List.getElem?_append_left (by omega)] at hx
              exact hx
            simpa using pairsOKL_spec h1 j x hpj
          · cases h1
        · have := List.all_eq_true.1 h3 e (by simpa using he)
          simp only [hb, Bool.not_true, Bool.false_or] at this
          have : e.on + 1 ≤ i := by simpa [Nat.blt] using this
          omega
      | succ k =>
        have := ih (pre ++ [z]) (i + 1) (by simp [hpl]) (by simpa using happ) h4 k y (by simpa using hk)
        rw [show i + (k + 1) = i + 1 + k by omega]
        exact this
  have k0 := fun k y hk => key ops.toList [] 0 rfl rfl h k y hk
  simp only [Nat.zero_add, Array.getElem?_toList] at k0
  refine ⟨fun i j x y hj hx hy => ?_, fun i y d hy hd => ?_, fun i y e hy he hb => (k0 i y hy).2.2 e he hb⟩
  · obtain ⟨m, hm, hall⟩ := (k0 i y hy).1
    obtain ⟨h1, h2⟩ := hall j x hj hx
    refine ⟨fun d hd hd' => ?_, fun hc => hreach i m j hm (h2 hc)⟩
    rw [hd, hd'] at h1
    simp [sameDst] at h1
  · have := (k0 i y hy).2.1
    rw [hd] at this
    simp only [dstIn] at this
    intro hmem
    rw [memN_iff.2 hmem] at this
    cases this

section
variable {P : Program} {E : Nat → Option TI} {nt : Nat} {w0 : Base} {ops : Array Oper} {s : Nat → St} {av : Nat → AV}
theorem slots_atL (hF : Facts0 P nt ops s av) (hd : DrawOKL ops) {listed : Array Bool} {m : Nat} {G : Gh} {a : Act} {w : World} (hI : Inv w0 nt ops s av listed m G a w) {j : Nat} {o : Oper} (ho : ops[j]? = some o) (hj : j ∈ Region.ready .any ops listed) :
    Slots nt ops o (s j).env (s m).objs G w a := by
  have hjn : j < ops.size := (Array.getElem?_eq_some_iff.1 ho).1
  have hnj : ¬ inS listed j := by
    have := (mem_ready.1 hj).1
    unfold inS
    rw [Array.getD_eq_getD_getElem?] at this ⊢
    rw [Array.getElem?_eq_getElem (by rw [hI.size]; exact hjn)] at this ⊢
    simp at this ⊢
    exact this
  refine ⟨hI.tmps, fun k hk u hu => ?_⟩
  rcases env_at hF (Nat.le_of_lt hjn) k u hu with ⟨i, x, h1, h2, h3, rfl⟩ | ⟨h1, h2⟩
  · have hc : conflictL ops x o = true := by simp [conflictL, h3, dstIn, memN_iff.2 hk]
    have := ready_reach hI.closed hj ((hd.pair j i x o h1 h2 ho).2 hc)
    exact ⟨.inl ((hF.fact i x h2).dst k h3), hI.done i x k this h2 h3⟩
  · refine ⟨hF.lt k u h2, hI.kept k u h2 (fun i x hi hx hdx => ?_)⟩
    rcases Nat.lt_or_ge i j with h | h
    · exact h1 i x h hx hdx
    · have hne : i ≠ j := fun e => by subst e; exact hnj hi
      have hc : conflictL ops o x = true := by simp [conflictL, hdx, dstIn, memN_iff.2 hk]
      exact hnj (reach_in hI.closed ((hd.pair i j o x (by omega) ho hx).2 hc) hi)

/-- One operation more. -/
theorem inv_stepL (hF : Facts0 P nt ops s av) (hd : DrawOKL ops) {listed : Array Bool} {m m' : Nat} {G G' : Gh} {a : Act} {w w' : World} (hI : Inv w0 nt ops s av listed m G a w) {j : Nat} {o : Oper} (ho : ops[j]? = some o) (hj : j ∈ Region.ready .any ops listed)
    (hph : Phase ops (listed.setIfInBounds j true) m') (hM : Mem w0 (s m').objs G' w') (hp : Pres (s m).objs G w (s m').objs G' w') {v : Value} (hv : (av j).rep (s m').objs G' w' v) (hA : ∀ x, G'.A x → G.A x ∨ (x < (s 0).next ∨ ∃ i, inS (listed.setIfInBounds j true) i ∧ (s i).next ≤ x ∧ x < (s (i + 1)).next)) :
    Inv w0 nt ops s av (listed.setIfInBounds j true) m' G' (a.put o.dst v) w' := by
  have hjn : j < ops.size := (Array.getElem?_eq_some_iff.1 ho).1
  have hjl : j < listed.size := by rw [hI.size]; exact hjn
  obtain ⟨_, o', ho', hall⟩ := mem_ready.1 hj
  rw [ho] at ho'
  injection ho' with ho'
  subst ho'
  have hfj := hF.fact j o ho
  have slot : ∀ {k : Nat}, o.dst ≠ some k → (a.put o.dst v).tmps.getD k undef = a.tmps.getD k undef := by
    intro k hk
    cases hdo : o.dst with
    | none => rfl
    | some d => exact getD_put_other (fun e => hk (by rw [hdo, e]))
  refine ⟨by simp [hI.size], fun i x e hi hx he hb => ?_, hph, hM, fun x hx => ?_, fun i x k hi hx hk => ?_, fun k u hu hno => ?_, ?_, ?_⟩
  · rcases inS_set hi with hi | rfl
    · exact inS_set_mono (hI.closed i x e hi hx he hb)
    · rw [ho] at hx
      injection hx with hx
      subst hx
      exact inS_set_mono (hall e he hb)
  · rcases hA x hx with h | h
    · rcases hI.laid x h with h | ⟨i, h1, h2⟩
      · exact .inl h
      · exact .inr ⟨i, inS_set_mono h1, h2⟩
    · exact h
  · by_cases e : i = j
    · subst e
      rw [ho] at hx
      injection hx with hx
      subst hx
      rw [hk, getD_put_same (by rw [hI.tmps]; exact hfj.dst k hk)]
      exact hv
    · have hi' : inS listed i := (inS_set hi).resolve_right e
      have hne : o.dst ≠ some k := by
        intro hok
        rcases Nat.lt_or_ge i j with h | h
        · exact (hd.pair j i x o h hx ho).1 k hk hok
        · exact (hd.pair i j o x (by omega) ho hx).1 k hok hk
      rw [slot hne]
      exact (av i).rep_pres hp _ (hI.done i x k hi' hx hk)
  · have hne : o.dst ≠ some k := hno j o (getD_set_same hjl) ho
    rw [slot hne]
    exact u.rep_pres hp _ (hI.kept k u hu (fun i x hi hx => hno i x (inS_set_mono hi) hx))
  · rw [← hI.tmps]
    cases o.dst <;> simp [Act.put]
  · rw [← hI.defers]
    cases o.dst <;> rfl

theorem conflictL_me {x y : Oper} (hx : isLite x.op = false) (hy : isLite y.op = false) (h : (clsO ops x = 2 ∧ clsO ops y ≠ 0) ∨ (clsO ops y = 2 ∧ clsO ops x ≠ 0)) : conflictL ops x y = true := by
  have e : ∀ {n : Nat}, n ≠ 0 → Nat.beq n 0 = false := fun {n} hn => by cases n with | zero => omega | succ n => rfl
  unfold conflictL
  rcases h with ⟨h1, h2⟩ | ⟨h1, h2⟩
  · simp [h1, e h2, hx, hy]
  · cases hb : Nat.beq (clsO ops x) 2 with
    | true => have := e (n := clsO ops y) (by omega); simp [this, hx, hy]
    | false => simp [h1, e h2, hx, hy]
theorem lite_one {op : Op} (h : isLite op = true) : cls op = 1 := by
  unfold isLite at h
  split at h
  · rfl
  · rfl
  · cases h
theorem lite_clsO {o : Oper} (h : isLite o.op = true) : clsO ops o = 1 := by
  unfold clsO
  split
  · rfl
  · exact lite_one h
theorem lite_cls {o : Oper} (h : clsO ops o = 2) : isLite o.op = false := by
  cases hl : isLite o.op with
  | false => rfl
  | true => rw [lite_clsO hl] at h; cases h
structure LiteF (P : Program) (nt : Nat) (ops : Array Oper) (s : Nat → St) (av : Nat → AV) : Prop where
  frm : ∀ i, i ≤ ops.size → ∀ id, id < (s 0).next → get (s i).objs id = get (s 0).objs id
  lite : ∀ (i : Nat) o, ops[i]? = some o → isLite o.op = true → (s (i + 1)).next = (s i).next ∧ GoB P nt ops i o ⟨(s i).env, (s 0).objs, (s i).next⟩ (av i) ⟨(s i).env, (s 0).objs, (s i).next⟩
theorem draw_anyL (hF : Facts0 P nt ops s av) (hL : LiteF P nt ops s av) (hd : DrawOKL ops) {Q : Exit → Act → World → Prop} (hQ : ∀ G a w, Rel w0 (s ops.size) G nt a w → Q .normal a w) :
    ∀ (fuel : Nat) (listed : Array Bool) (m : Nat) (G : Gh) (a : Act) (w : World), (List.range ops.size).countP (fun i => !listed.getD i false) ≤ fuel → Inv w0 nt ops s av listed m G a w → wpAny P .any ops Q fuel listed a w := by
  have fin : ∀ (listed : Array Bool) (m : Nat) (G : Gh) (a : Act) (w : World), Inv w0 nt ops s av listed m G a w → Region.ready .any ops listed = [] → Q .normal a w := by
    intro listed m G a w hI hr
    have all : ∀ i, i < ops.size → inS listed i := by
      intro i
      induction i using Nat.strongRecOn with
      | ind i ih =>
        intro hi
        by_cases h : inS listed i
        · exact h
        · exfalso
          have : i ∈ Region.ready .any ops listed := mem_ready.2 ⟨by
            unfold inS at h
            rw [Array.getD_eq_getD_getElem?] at h ⊢
            rw [Array.getElem?_eq_getElem (by rw [hI.size]; exact hi)] at h ⊢
            simpa using h, ops[i], by simp, fun e he hb => by
              have hlt := hd.back i ops[i] e (by simp) he hb
              exact ih e.on hlt (by omega)⟩
          rw [hr] at this
          cases this
    have hm : m = ops.size := by
      rcases Nat.lt_or_ge m ops.size with h | h
      · exact absurd (all m h) (hI.ph.new ops[m] (by simp)).2
      · have := hI.ph.le; omega
    have hm' := hm
    subst hm
    refine hQ G a w ⟨hI.mem, fun k u hu => ?_, fun k u hu => ?_, hI.tmps, fun j hj => ?_, wf_all hF (Nat.le_refl _), hI.defers⟩
    · rcases env_at hF (Nat.le_refl _) k u hu with ⟨i, x, h1, h2, h3, rfl⟩ | ⟨h1, h2⟩
      · exact hI.done i x k (all i h1) h2 h3
      · exact hI.kept k u h2 (fun i x hi hx => h1 i x (Array.getElem?_eq_some_iff.1 hx).1 hx)
    · rcases env_at hF (Nat.le_refl _) k u hu with ⟨i, x, h1, h2, h3, rfl⟩ | ⟨h1, h2⟩
      · exact .inl ((hF.fact i x h2).dst k h3)
      · exact hF.lt k u h2
    · rcases hI.laid j hj with h | ⟨i, h1, h2, h3⟩
      · exact Nat.lt_of_lt_of_le h (next_mono hF (Nat.zero_le _) (Nat.le_refl _))
      · have hi := inS_lt h1
        rw [hI.size] at hi
        exact Nat.lt_of_lt_of_le h3 (next_mono hF (by omega) (Nat.le_refl _))
  intro fuel
  induction fuel with
  | zero =>
    intro listed m G a w hc hI
    have hr : Region.ready .any ops listed = [] := by
      refine List.eq_nil_iff_forall_not_mem.2 (fun j hj => ?_)
      obtain ⟨h1, o, h2, _⟩ := mem_ready.1 hj
      have hjn : j < ops.size := (Array.getElem?_eq_some_iff.1 h2).1
      have h0 : (List.range ops.size).countP (fun i => !listed.getD i false) = 0 := by omega
      have := List.countP_eq_zero.1 h0 j (by simp [hjn])
      rw [Array.getD_eq_getD_getElem?] at h1 this
      rw [Array.getElem?_eq_getElem (by rw [hI.size]; exact hjn)] at h1 this
      simp at h1 this
      rw [h1] at this
      cases this
    exact ⟨hr, fin listed m G a w hI hr⟩
  | succ fuel ih =>
    intro listed m G a w hc hI
    refine ⟨fin listed m G a w hI, fun j hj => ?_⟩
    obtain ⟨hun, o, ho, _⟩ := mem_ready.1 hj
    have hjn : j < ops.size := (Array.getElem?_eq_some_iff.1 ho).1
    have hjl : j < listed.size := by rw [hI.size]; exact hjn
    have hnj : ¬ inS listed j := by
      unfold inS
      rw [Array.getD_eq_getD_getElem?] at hun ⊢
      rw [Array.getElem?_eq_getElem hjl] at hun ⊢
      simp at hun ⊢
      exact hun
    have hcnt : (List.range ops.size).countP (fun i => !(listed.setIfInBounds j true).getD i false) ≤ fuel := by
      have := countP_lt (p := fun i => !listed.getD i false) (q := fun i => !(listed.setIfInBounds j true).getD i false) (l := List.range ops.size) (x := j) (fun y _ hy => by
        by_cases h : inS listed y
        · have := inS_set_mono (i := j) h
          unfold inS at this
          rw [this] at hy
          cases hy
        · unfold inS at h
          cases hb : listed.getD y false with
          | true => exact absurd hb h
          | false => rfl) (by simp [hjn]) (by unfold inS at hnj; cases hb : listed.getD j false with | true => exact absurd hb hnj | false => rfl)
          (by have := getD_set_same hjl; unfold inS at this; simp [this])
      omega
    have hf := hF.fact j o ho
    have hsl := slots_atL hF hd hI ho hj
    have same : clsO ops o ≠ 2 → Phase ops (listed.setIfInBounds j true) m := fun h2 => ⟨hI.ph.le, fun i x hi hx hcx => inS_set_mono (hI.ph.old i x hi hx hcx), fun x hx => by
      obtain ⟨h3, h4⟩ := hI.ph.new x hx
      refine ⟨h3, fun h5 => ?_⟩
      rcases inS_set h5 with h5 | rfl
      · exact h4 h5
      · rw [ho] at hx; injection hx with hx; subst hx; exact h2 h3⟩
    rcases clsO_le ops o with h0 | h1 | h2
    · obtain ⟨_, _, hg⟩ := hf.a h0
      refine hg _ G w a _ Q hsl (fun u hu => ih _ m G _ w hcnt (inv_stepL hF hd hI ho hj (same (by omega)) hI.mem Pres.refl hu (fun x hx => .inl hx)))
    · cases hlo : isLite o.op with
      | true =>
        obtain ⟨hnx, hg⟩ := hL.lite j o ho hlo
        refine hg w0 (s m).objs G w a _ Q (fun id ob hob => ?_) hI.mem hsl (fun x hx1 hx2 => absurd hx1 (Nat.not_le_of_lt hx2)) (fun G' u w' hM' hp hu hA => ih _ m G' _ w' hcnt (inv_stepL hF hd hI ho hj (same (by omega)) hM' hp hu (fun x hx => (hA x hx).imp_right (fun h => absurd h.1 (Nat.not_le_of_lt h.2)))))
        rw [hL.frm m hI.ph.le id (wf_all hF (Nat.zero_le _) id ob hob)]; exact hob
      | false =>
        have hjm : j < m := by
          rcases Nat.lt_or_ge j m with h | h
          · exact h
          · exfalso
            have hmn : m < ops.size := by omega
            obtain ⟨h3, h4⟩ := hI.ph.new ops[m] (by simp)
            have hne : m ≠ j := fun e => by
              subst e
              rw [Array.getElem?_eq_getElem hmn] at ho
              injection ho with ho
              rw [ho] at h3
              omega
            exact h4 (ready_reach hI.closed hj ((hd.pair j m ops[m] o (by omega) (by simp) ho).2 (conflictL_me (lite_cls h3) (by first | exact hlo | exact lite_cls h2) (.inl ⟨h3, by omega⟩))))
        have hext := objs_ext hF (i := j + 1) (j := m) (by omega) hI.ph.le (fun k x hk1 hk2 hx hcx => by
          have hk := hI.ph.old k x hk2 hx hcx
          exact hnj (reach_in hI.closed ((hd.pair k j o x (by omega) ho hx).2 (conflictL_me (by first | exact hlo | exact lite_cls h2) (lite_cls hcx) (.inr ⟨hcx, by omega⟩))) hk))
        refine hf.b h1 w0 (s m).objs G w a _ Q (fun id ob hob => ?_) hI.mem hsl (fun x hx1 hx2 hA => ?_) (fun G' u w' hM' hp hu hA => ih _ m G' _ w' hcnt (inv_stepL hF hd hI ho hj (same (by omega)) hM' hp hu (fun x hx => (hA x hx).imp_right (fun h => .inr ⟨j, getD_set_same hjl, h⟩))))
        · rw [hext id (hf.wf id ob hob)]; exact hob
        · rcases hI.laid x hA with h | ⟨i, h3, h4, h5⟩
          · have := next_mono hF (Nat.zero_le j) (Nat.le_of_lt hjn)
            omega
          · have hil := inS_lt h3
            rw [hI.size] at hil
            rcases Nat.lt_trichotomy i j with h | h | h
            · have := next_mono hF (show i + 1 ≤ j from h) (Nat.le_of_lt hjn)
              omega
            · subst h; exact hnj h3
            · have := next_mono hF (show j + 1 ≤ i from h) (Nat.le_of_lt hil)
              omega
    · have hjm : j = m := by
        rcases Nat.lt_trichotomy j m with h | h | h
        · exact absurd (hI.ph.old j o h ho h2) hnj
        · exact h
        · exfalso
          have hmn : m < ops.size := by omega
          obtain ⟨h3, h4⟩ := hI.ph.new ops[m] (by simp)
          exact h4 (ready_reach hI.closed hj ((hd.pair j m ops[m] o h (by simp) ho).2 (conflictL_me (lite_cls h3) (by first | exact hlo | exact lite_cls h2) (.inl ⟨h3, by omega⟩))))
      subst hjm
      have hlt : ∀ x, G.A x → x < (s j).next := by
        intro x hA
        rcases hI.laid x hA with h | ⟨i, h3, h4, h5⟩
        · exact Nat.lt_of_lt_of_le h (next_mono hF (Nat.zero_le j) (Nat.le_of_lt hjn))
        · have hil := inS_lt h3
          rw [hI.size] at hil
          rcases Nat.lt_trichotomy i j with h | h | h
          · exact Nat.lt_of_lt_of_le h5 (next_mono hF h (Nat.le_of_lt hjn))
          · subst h; exact absurd h3 hnj
          · exfalso
            have hx : ops[i]? = some ops[i] := by simp
            by_cases hci : clsO ops (ops[i]) = 0
            · have := ((hF.fact i _ hx).a hci).2.1
              omega
            · cases hli : isLite (ops[i]).op with
              | true => have := (hL.lite i _ hx hli).1; omega
              | false => exact hnj (reach_in hI.closed ((hd.pair i j o ops[i] h ho hx).2 (conflictL_me (lite_cls h2) hli (.inl ⟨h2, hci⟩))) h3)
      obtain ⟨m', hm1, hm2, hm3, hm4⟩ := phase_next (ops.size - (j + 1)) ops.size (j + 1) rfl (by omega) (fun i => match ops[i]? with | some x => Nat.beq (clsO ops x) 2 | none => false)
      have hno : ∀ (k : Nat) x, j + 1 ≤ k → k < m' → ops[k]? = some x → clsO ops x ≠ 2 := by
        intro k x h1 h2 h3 h4
        have := hm3 k h1 h2
        simp [h3, h4] at this
      have hext := objs_ext hF (i := j + 1) (j := m') hm1 hm2 hno
      have hph : Phase ops (listed.setIfInBounds j true) m' := by
        refine ⟨hm2, fun i x hi hx hcx => ?_, fun x hx => ?_⟩
        · rcases Nat.lt_trichotomy i j with h | h | h
          · exact inS_set_mono (hI.ph.old i x h hx hcx)
          · subst h; exact getD_set_same hjl
          · exact absurd hcx (hno i x h hi hx)
        · have hlt' : m' < ops.size := (Array.getElem?_eq_some_iff.1 hx).1
          have hc2 := hm4 hlt'
          simp only [hx] at hc2
          have hc2 := Nat.eq_of_beq_eq_true hc2
          refine ⟨hc2, fun h => ?_⟩
          rcases inS_set h with h | rfl
          · exact hnj (reach_in hI.closed ((hd.pair m' j o x (by omega) ho hx).2 (conflictL_me (lite_cls h2) (lite_cls hc2) (.inl ⟨h2, by omega⟩))) h)
          · omega
      refine hf.e h2 w0 G w a _ Q hI.mem hsl hlt (fun G' u w' hM' hp hu hA => ?_)
      obtain ⟨hM2, hp2⟩ := mem_later hM' hA hext
      refine ih _ m' G' _ w' hcnt (inv_stepL hF hd hI ho hj hph hM2 (hp.trans hp2) ((av j).rep_pres hp2 _ hu) (fun x hx => ?_))
      right
      by_cases h0 : x < (s 0).next
      · exact .inl h0
      · obtain ⟨i, h3, h4, h5⟩ := range_of (s := s) (j + 1) x (by omega) (hA x hx)
        refine .inr ⟨i, ?_, h4, h5⟩
        rcases Nat.lt_or_ge i j with h | h
        · have hx' : ops[i]? = some ops[i] := by simp
          cases hli : isLite (ops[i]).op with
          | true => have := (hL.lite i _ hx' hli).1; omega
          | false =>
            refine inS_set_mono (ready_reach hI.closed hj ((hd.pair j i ops[i] o h hx' ho).2 (conflictL_me hli (lite_cls h2) (.inr ⟨h2, fun hci => ?_⟩))))
            have := ((hF.fact i _ hx').a hci).2.1
            omega
        · have : i = j := by omega
          subst this
          exact getD_set_same hjl
theorem evOpsL_trace (hE : TOk P E) {K : St → Prop} {O0 : List (Nat × Ob)} {n0 : Nat} : ∀ (l : List Oper) (p : Nat) (σ : St), (∀ i o, l[i]? = some o → ops[p + i]? = some o) → σ.wf → (∀ id, id < n0 → get σ.objs id = get O0 id) → n0 ≤ σ.next → (∀ id ob, get O0 id = some ob → id < n0) → evOpsL P E nt O0 n0 ops l K σ →
    ∃ (s : Nat → St) (av : Nat → AV), s p = σ ∧ (∀ i o, l[i]? = some o → Fact P nt ops (p + i) o (s (p + i)) (av (p + i)) (s (p + i + 1))) ∧ K (s (p + l.length)) ∧
      (∀ i o, l[i]? = some o → (∀ id, id < n0 → get (s (p + i + 1)).objs id = get O0 id) ∧ (isLite o.op = true → (s (p + i + 1)).next = (s (p + i)).next ∧ GoB P nt ops (p + i) o ⟨(s (p + i)).env, O0, (s (p + i)).next⟩ (av (p + i)) ⟨(s (p + i)).env, O0, (s (p + i)).next⟩))
  | [], p, σ, _, _, _, _, _, h => ⟨fun _ => σ, fun _ => .junk, rfl, by simp, h, by simp⟩
  | o :: rest, p, σ, hl, hw, hfr, hn0, hO, h => by
    have hi : ops[p]? = some o := by simpa using hl 0 o (by simp)
    simp only [evOpsL, putK_eq] at h
    rcases scase_out h with ⟨hd, h⟩ | ⟨_, h⟩
    case inr => exact h.elim
    rw [Bool.and_eq_true] at hd
    obtain ⟨hd, hgd⟩ := hd
    have hg : o.guard = none := by unfold noG at hgd; split at hgd <;> simp_all
    have next : ∀ {v : AV} {σ' : St}, Fact P nt ops p o σ v σ' → (∀ id, id < n0 → get σ'.objs id = get O0 id) → (isLite o.op = true → σ'.next = σ.next ∧ GoB P nt ops p o ⟨σ.env, O0, σ.next⟩ v ⟨σ.env, O0, σ.next⟩) → evOpsL P E nt O0 n0 ops rest K σ' → ∃ (s : Nat → St) (av : Nat → AV), s p = σ ∧ (∀ i q, (o :: rest)[i]? = some q → Fact P nt ops (p + i) q (s (p + i)) (av (p + i)) (s (p + i + 1))) ∧ K (s (p + (o :: rest).length)) ∧
        (∀ i q, (o :: rest)[i]? = some q → (∀ id, id < n0 → get (s (p + i + 1)).objs id = get O0 id) ∧ (isLite q.op = true → (s (p + i + 1)).next = (s (p + i)).next ∧ GoB P nt ops (p + i) q ⟨(s (p + i)).env, O0, (s (p + i)).next⟩ (av (p + i)) ⟨(s (p + i)).env, O0, (s (p + i)).next⟩)) := by
      intro v σ' hf hfr' hlt h
      obtain ⟨s, av, h1, h2, h3, h4⟩ := evOpsL_trace hE rest (p + 1) σ' (fun i q hq => by
        have := hl (i + 1) q (by simpa using hq)
        rw [show p + 1 + i = p + (i + 1) by omega]; exact this) hf.wf hfr' (Nat.le_trans hn0 hf.next) hO h
      refine ⟨fun i => if i = p then σ else s i, fun i => if i = p then v else av i, by simp, fun i q hq => ?_, ?_, fun i q hq => ?_⟩
      · cases i with
        | zero =>
          simp at hq
          subst hq
          simpa [h1] using hf
        | succ i =>
          have := h2 i q (by simpa using hq)
          rw [show p + 1 + i = p + (i + 1) by omega] at this
          have e1 : p + (i + 1) ≠ p := by omega
          have e2 : p + (i + 1) + 1 ≠ p := by omega
          simp only [e1, e2, if_false]
          exact this
      · have e1 : p + (rest.length + 1) ≠ p := by omega
        simp only [List.length_cons, e1, if_false]
        rw [show p + (rest.length + 1) = p + 1 + rest.length by omega]
        exact h3
      · cases i with
        | zero =>
          simp at hq
          subst hq
          have e2 : p + 1 ≠ p := by omega
          simp only [Nat.add_zero, e2, if_false, if_true, h1]
          exact ⟨hfr', hlt⟩
        | succ i =>
          have := h4 i q (by simpa using hq)
          rw [show p + 1 + i = p + (i + 1) by omega] at this
          have e1 : p + (i + 1) ≠ p := by omega
          have e2 : p + (i + 1) + 1 ≠ p := by omega
          simp only [e1, e2, if_false]
          exact this
    split at h
    · rename_i hlo
      have hwτ : St.wf ⟨σ.env, O0, σ.next⟩ := fun id x hx => Nat.lt_of_lt_of_le (hO id x hx) hn0
      have hc1 : clsO ops o = 1 := lite_clsO hlo
      obtain ⟨v, τ, ⟨⟨ho1, ho2⟩, hk⟩, hf⟩ := fact_run (nt := nt) (σ := ⟨σ.env, O0, σ.next⟩) (τ := ⟨σ.env, O0, σ.next⟩) hE hi hwτ hd (fun _ _ h => h) rfl rfl (fun O G w a _ => by simp [Region.wanted, hg]) h
      have hgb : GoB P nt ops p o ⟨σ.env, O0, σ.next⟩ v ⟨σ.env, O0, σ.next⟩ := by
        have h5 := hf.b hc1
        obtain ⟨q1, q2, _⟩ := put_st τ o.dst v
        unfold GoB at h5 ⊢
        rw [q1, q2, ho1, ho2] at h5
        exact h5
      obtain ⟨p1, p2, p3⟩ := put_st σ o.dst v
      refine next (v := v) (σ' := σ.put o.dst v) ⟨hi, hf.dst, by rw [p2]; exact Nat.le_refl _, p3 hw, put_env (fun _ _ h => h) rfl, fun _ id _ => by rw [p1], fun h0 => by omega, fun _ => ?_, fun h0 => by omega⟩ (by rw [p1]; exact hfr) (fun _ => ⟨p2, hgb⟩) hk
      intro w0 O G w a Kc Q hsub hM hs hfr2 hK
      rw [p1] at hsub
      rw [p2] at hfr2 hK
      exact hgb w0 O G w a Kc Q (fun id ob hob => hsub id ob (by rw [hfr id (hO id ob hob)]; exact hob)) hM hs hfr2 hK
    · rename_i hlo
      obtain ⟨v, σ', ⟨hfo, hk⟩, hf⟩ := fact_run (nt := nt) (τ := σ) hE hi hw hd (fun _ _ h => h) rfl rfl (fun O G w a _ => by simp [Region.wanted, hg]) h
      obtain ⟨p1, _, _⟩ := put_st σ' o.dst v
      exact next hf (by rw [p1]; exact frmO_iff hfo) (fun h0 => by rw [hlo] at h0; cases h0) hk

/-- THE DRAWN REGION. -/
theorem draw_wpAnyL (hE : TOk P E) (nt : Nat) (w0 : Base) (ops : Array Oper) (K : St → Prop) (σ : St) (G : Gh) (a : Act) (w : World) (hok : drawOKL ops = true)
    (h : evOpsL P E nt σ.objs σ.next ops ops.toList K σ) (hR : Rel w0 σ G nt a w) : wpAny P .any ops (Post w0 nt fun e σ' => e = .normal ∧ K σ') ops.size (Array.replicate ops.size false) a { w with drawn := w.drawn + 1 } := by
  obtain ⟨s, av, h1, h2, h3, h4⟩ := evOpsL_trace hE ops.toList 0 σ (fun i o hi => by simpa using hi) hR.wf (fun _ _ => rfl) (Nat.le_refl _) hR.wf h
  have hF : Facts0 P nt ops s av := ⟨fun i o ho => by have := h2 i o (by simpa using ho); simpa using this, by rw [h1]; exact hR.wf, by rw [h1]; exact hR.lt⟩
  have hL : LiteF P nt ops s av := ⟨fun i hi id hid => by
      rw [h1] at hid ⊢
      cases i with
      | zero => rw [h1]
      | succ i => have := (h4 i ops[i] (by simp)).1 id hid; simpa using this, fun i o ho hl => by
      have := (h4 i o (by simpa using ho)).2 hl
      rw [h1]; simpa using this⟩
  have hd := drawOKL_spec hok
  simp only [Array.length_toList, Nat.zero_add] at h3
  have no : ∀ i, ¬ inS (Array.replicate ops.size false) i := fun i h => by
    unfold inS at h
    rw [Array.getD_eq_getD_getElem?, Array.getElem?_replicate] at h
    split at h <;> simp at h
  obtain ⟨m, _, hm2, hm3, hm4⟩ := phase_next (ops.size - 0) ops.size 0 rfl (by omega) (fun i => match ops[i]? with | some x => Nat.beq (clsO ops x) 2 | none => false)
  have hno : ∀ (k : Nat) x, 0 ≤ k → k < m → ops[k]? = some x → clsO ops x ≠ 2 := by
    intro k x h1 h2 h3 h4
    have := hm3 k h1 h2
    simp [h3, h4] at this
  have hM0 : Mem w0 σ.objs G { w with drawn := w.drawn + 1 } ∧ Pres σ.objs G w σ.objs G { w with drawn := w.drawn + 1 } :=
    hR.mem.step (fun id => Lv σ.objs G id) (fun _ => False) (fun id h => ⟨h, rfl⟩) ⟨rfl, rfl⟩ (fun id h => ⟨h, rfl, rfl, rfl⟩) (fun id h => .inl h) rfl rfl rfl (Nat.le_refl _) (fun b _ _ => rfl)
      (fun _ h => h.elim) (fun _ _ h => h.elim) (fun _ h => h.elim) (fun _ h => h.elim) (fun _ _ h => h.elim)
  have hlt : ∀ j, G.A j → j < (s 0).next := fun j hj => by rw [h1]; exact hR.fresh j hj
  obtain ⟨hM1, hp1⟩ := mem_later hM0.1 hR.fresh (by
    have := objs_ext hF (Nat.zero_le m) hm2 hno
    rw [h1] at this
    exact this)
  have hp := hM0.2.trans hp1
  refine draw_anyL (w0 := w0) hF hL hd (fun G' a' w' hR' => ⟨.normal, s ops.size, G', rfl, ⟨rfl, h3⟩, hR'⟩) ops.size _ m G a _ ?_ ⟨by simp, fun i o e hi => absurd hi (no i), ⟨hm2, fun i o hi ho hc => absurd hc (hno i o (Nat.zero_le _) hi ho), fun o ho => ⟨?_, no m⟩⟩, hM1, fun j hj => .inl (hlt j hj), fun i o k hi => absurd hi (no i), fun k u hu _ => ?_, hR.size, hR.defers⟩
  · exact Nat.le_trans List.countP_le_length (by simp)
  · have := hm4 (Array.getElem?_eq_some_iff.1 ho).1
    simp only [ho] at this
    exact Nat.eq_of_beq_eq_true this
  · rw [h1] at hu
    exact u.rep_pres hp _ (hR.env k u hu)

/-- A drawn region in which slices do not wait. -/
theorem regAt_lite (hE : TOk P E) (hm : P.follows .mixedOrders = true) {id : Nat} {K : St → Prop} {σ : St} (hd : drawOKL ops = true) (h : evOpsL P E nt σ.objs σ.next ops ops.toList K σ) : RegAt P nt (.region id ops true) K σ := by
  intro w0 G a w hR
  refine wp_mono (Q := Post w0 nt fun e σ' => e = .normal ∧ K σ') (wp_region_any hm (draw_wpAnyL hE nt w0 ops K σ G a w hd h hR)) ?_
  rintro e a' w' ⟨ex, σ', G', rfl, ⟨rfl, hk⟩, hR'⟩
  exact ⟨rfl, σ', G', hk, hR'⟩
end
end Go.Vm

namespace Go.Vm
open Go.RowKit

def delL (O : List (Nat × Ob)) : List Nat → List (Nat × Ob)
  | [] => O
  | k :: r => del (delL O r) k
theorem delL_get {O : List (Nat × Ob)} {x : Nat} {ob : Ob} : ∀ {D : List Nat}, get (delL O D) x = some ob → get O x = some ob
  | [], h => h
  | k :: r, h => by
    by_cases e : x = k
    · subst e; simp only [delL, get_del_same] at h; cases h
    · simp only [delL, get_del_other _ _ _ e] at h; exact delL_get h
/-- What is listed is as it was. -/
def frmL (O' : List (Nat × Ob)) : List (Nat × Ob) → Prop
  | [] => True
  | (k, o) :: r => get O' k = some o ∧ frmL O' r
theorem frmL_get {O' : List (Nat × Ob)} {x : Nat} {ob : Ob} : ∀ {O : List (Nat × Ob)}, frmL O' O → get O x = some ob → get O' x = some ob
  | [], _, h => by cases h
  | (k, o) :: r, hf, h => by
    by_cases e : x = k
    · subst e
      have : get ((x, o) :: r) x = some o := get_cons_same _ _ _
      rw [this] at h
      injection h with h
      rw [← h]; exact hf.1
    · rw [get_cons_other _ _ _ _ e] at h
      exact frmL_get hf.2 h
def evOpsDL (P : Program) (E : Nat → Option TI) (nt : Nat) (O0 : List (Nat × Ob)) (ops : Array Oper) (id : Nat) : List Oper → (St → Prop) → St → Prop
  | [], K, σ => K σ
  | o :: rest, K, σ => scase (dstOk nt o.dst && noG o) (match isLite o.op with
    | true => evOpF P E false (frO false ops o) o.op ⟨σ.env, O0, σ.next⟩ fun v τ => (τ.objs = O0 ∧ τ.next = σ.next) ∧ putK σ o.dst v (evOpsDL P E nt O0 ops id rest K)
    | false => evOpD P E ops id o σ fun v σ' => frmL σ'.objs O0 ∧ putK σ' o.dst v (evOpsDL P E nt O0 ops id rest K)) False

section
variable {P : Program} {E : Nat → Option TI} {nt : Nat} {w0 : Base} {ops : Array Oper} {s : Nat → St} {av : Nat → AV} {id : Nat}
theorem val_lite {o : Oper} (h : isVal o.op = true) : isLite o.op = false := by
  unfold isVal at h
  split at h
  · rename_i e; rw [e]; rfl
  · cases h
theorem lite_val {o : Oper} (h : isLite o.op = true) : isVal o.op = false := by
  cases hv : isVal o.op with
  | false => rfl
  | true => rw [val_lite hv] at h; cases h
structure LiteD (P : Program) (nt : Nat) (ops : Array Oper) (id : Nat) (O0 : List (Nat × Ob)) (s : Nat → St) (av : Nat → AV) : Prop where
  nid : get O0 id = none
  frm : ∀ i, i ≤ ops.size → ∀ x ob, get O0 x = some ob → get (s i).objs x = some ob
  lite : ∀ (i : Nat) o, ops[i]? = some o → isLite o.op = true → (s (i + 1)).next = (s i).next ∧ GoB P nt ops i o ⟨(s i).env, O0, (s i).next⟩ (av i) ⟨(s i).env, O0, (s i).next⟩
theorem slots_atDL (hF : FactsD P nt ops id s av) (hd : DrawOKL ops) {listed : Array Bool} {m : Nat} {c : Ob} {G : Gh} {a : Act} {w : World} (hI : InvD w0 nt ops id s av listed m c G a w) {j : Nat} {o : Oper} (ho : ops[j]? = some o) (hj : j ∈ Region.ready .any ops listed) :
    Slots nt ops o (s j).env (ovr (s m).objs id c) G w a := by
  have hjn : j < ops.size := (Array.getElem?_eq_some_iff.1 ho).1
  have hnj := not_listed hI.size hjn hj
  refine ⟨hI.tmps, fun k hk u hu => ?_⟩
  rcases env_atD hF (Nat.le_of_lt hjn) k u hu with ⟨i, x, h1, h2, h3, rfl⟩ | ⟨h1, h2⟩
  · have hc : conflictL ops x o = true := by simp [conflictL, h3, dstIn, memN_iff.2 hk]
    have := ready_reach hI.closed hj ((hd.pair j i x o h1 h2 ho).2 hc)
    exact ⟨.inl ((hF.fact i x h2).dst k h3), hI.done i x k this h2 h3⟩
  · refine ⟨hF.lt k u h2, hI.kept k u h2 (fun i x hi hx hdx => ?_)⟩
    rcases Nat.lt_or_ge i j with h | h
    · exact h1 i x h hx hdx
    · have hne : i ≠ j := fun e => by subst e; exact hnj hi
      have hc : conflictL ops o x = true := by simp [conflictL, hdx, dstIn, memN_iff.2 hk]
      exact hnj (reach_in hI.closed ((hd.pair i j o x (by omega) ho hx).2 hc) hi)

/-- One operation more. -/
theorem inv_stepDL (hF : FactsD P nt ops id s av) (hd : DrawOKL ops) {listed : Array Bool} {m m' : Nat} {c c' : Ob} {G G' : Gh} {a : Act} {w w' : World} (hI : InvD w0 nt ops id s av listed m c G a w) {j : Nat} {o : Oper} (ho : ops[j]? = some o) (hj : j ∈ Region.ready .any ops listed)
    (hph : Phase ops (listed.setIfInBounds j true) m') (hM : Mem w0 (ovr (s m').objs id c') G' w') (hp : Pres (ovr (s m).objs id c) G w (ovr (s m').objs id c') G' w') {v : Value} (hv : (av j).rep (ovr (s m').objs id c') G' w' v)
    (hA : ∀ x, G'.A x → G.A x ∨ (x < (s 0).next ∨ ∃ i, inS (listed.setIfInBounds j true) i ∧ (s i).next ≤ x ∧ x < (s (i + 1)).next))
    (hcur : ∃ q, q ≤ ops.size ∧ get (s q).objs id = some c' ∧ (∀ (i : Nat) o, i < q → ops[i]? = some o → isVal o.op = true → inS (listed.setIfInBounds j true) i) ∧ ∀ (i : Nat) o, q ≤ i → ops[i]? = some o → isVal o.op = true → ¬ inS (listed.setIfInBounds j true) i) :
    InvD w0 nt ops id s av (listed.setIfInBounds j true) m' c' G' (a.put o.dst v) w' := by
  have hjn : j < ops.size := (Array.getElem?_eq_some_iff.1 ho).1
  have hjl : j < listed.size := by rw [hI.size]; exact hjn
  obtain ⟨_, o', ho', hall⟩ := mem_ready.1 hj
  rw [ho] at ho'
  injection ho' with ho'
  subst ho'
  have hfj := hF.fact j o ho
  have slot : ∀ {k : Nat}, o.dst ≠ some k → (a.put o.dst v).tmps.getD k undef = a.tmps.getD k undef := by
    intro k hk
    cases hdo : o.dst with
    | none => rfl
    | some d => exact getD_put_other (fun e => hk (by rw [hdo, e]))
  refine ⟨by simp [hI.size], fun i x e hi hx he hb => ?_, hph, hM, fun x hx => ?_, fun i x k hi hx hk => ?_, fun k u hu hno => ?_, hcur, ?_, ?_⟩
  · rcases inS_set hi with hi | rfl
    · exact inS_set_mono (hI.closed i x e hi hx he hb)
    · rw [ho] at hx
      injection hx with hx
      subst hx
      exact inS_set_mono (hall e he hb)
  · rcases hA x hx with h | h
    · rcases hI.laid x h with h | ⟨i, h1, h2⟩
      · exact .inl h
      · exact .inr ⟨i, inS_set_mono h1, h2⟩
    · exact h
  · by_cases e : i = j
    · subst e
      rw [ho] at hx
      injection hx with hx
      subst hx
      rw [hk, getD_put_same (by rw [hI.tmps]; exact hfj.dst k hk)]
      exact hv
    · have hi' : inS listed i := (inS_set hi).resolve_right e
      have hne : o.dst ≠ some k := by
        intro hok
        rcases Nat.lt_or_ge i j with h | h
        · exact (hd.pair j i x o h hx ho).1 k hk hok
        · exact (hd.pair i j o x (by omega) ho hx).1 k hok hk
      rw [slot hne]
      exact (av i).rep_pres hp _ (hI.done i x k hi' hx hk)
  · have hne : o.dst ≠ some k := hno j o (getD_set_same hjl) ho
    rw [slot hne]
    exact u.rep_pres hp _ (hI.kept k u hu (fun i x hi hx => hno i x (inS_set_mono hi) hx))
  · rw [← hI.tmps]
    cases o.dst <;> simp [Act.put]
  · rw [← hI.defers]
    cases o.dst <;> rfl

theorem conflictL_val {x y : Oper} (hx : isVal x.op = true) (hy : isVal y.op = true) : conflictL ops x y = true := by unfold conflictL; rw [hx, hy]; rfl

/-- The box's cells ahead of an operation that is ordered against all calls. -/
theorem cur_atL (hF : FactsD P nt ops id s av) (hd : DrawOKL ops) {listed : Array Bool} {m : Nat} {c : Ob} {G : Gh} {a : Act} {w : World} (hI : InvD w0 nt ops id s av listed m c G a w) {j : Nat} {o : Oper} (ho : ops[j]? = some o) (hj : j ∈ Region.ready .any ops listed)
    (hcf : ∀ x, isVal x.op = true → conflictL ops x o = true ∧ conflictL ops o x = true) : get (s j).objs id = some c ∧ (∀ (i : Nat) x, i < j → ops[i]? = some x → isVal x.op = true → inS listed i) ∧ ∀ (i : Nat) x, j ≤ i → ops[i]? = some x → isVal x.op = true → ¬ inS listed i := by
  have hjn : j < ops.size := (Array.getElem?_eq_some_iff.1 ho).1
  have hnj := not_listed hI.size hjn hj
  have before : ∀ (i : Nat) x, i < j → ops[i]? = some x → isVal x.op = true → inS listed i := fun i x hi hx hv => ready_reach hI.closed hj ((hd.pair j i x o hi hx ho).2 (hcf x hv).1)
  have after : ∀ (i : Nat) x, j ≤ i → ops[i]? = some x → isVal x.op = true → ¬ inS listed i := fun i x hi hx hv hin => by
    rcases Nat.lt_or_ge j i with h | h
    · exact hnj (reach_in hI.closed ((hd.pair i j o x h ho hx).2 (hcf x hv).2) hin)
    · have : i = j := by omega
      subst this
      exact hnj hin
  obtain ⟨q, hq1, hq2, hq3, hq4⟩ := hI.cur
  refine ⟨?_, before, after⟩
  rcases Nat.lt_or_ge j q with h | h
  · rw [← hq2]
    refine (box_const hF (Nat.le_of_lt h) hq1 (fun k x h1 h2 hx => ?_)).symm
    cases hv : isVal x.op with
    | false => rfl
    | true => exact absurd (hq3 k x h2 hx hv) (after k x h1 hx hv)
  · rw [← hq2]
    refine box_const hF h (Nat.le_of_lt hjn) (fun k x h1 h2 hx => ?_)
    cases hv : isVal x.op with
    | false => rfl
    | true => exact absurd (before k x h2 hx hv) (hq4 k x h1 hx hv)

theorem draw_anyDL (hF : FactsD P nt ops id s av) {O0 : List (Nat × Ob)} (hL : LiteD P nt ops id O0 s av) (hd : DrawOKL ops) {Q : Exit → Act → World → Prop} (hQ : ∀ G a w, Rel w0 (s ops.size) G nt a w → Q .normal a w) :
    ∀ (fuel : Nat) (listed : Array Bool) (m : Nat) (c : Ob) (G : Gh) (a : Act) (w : World), (List.range ops.size).countP (fun i => !listed.getD i false) ≤ fuel → InvD w0 nt ops id s av listed m c G a w → wpAny P .any ops Q fuel listed a w := by
  have fin : ∀ (listed : Array Bool) (m : Nat) (c : Ob) (G : Gh) (a : Act) (w : World), InvD w0 nt ops id s av listed m c G a w → Region.ready .any ops listed = [] → Q .normal a w := by
    intro listed m c G a w hI hr
    have all : ∀ i, i < ops.size → inS listed i := by
      intro i
      induction i using Nat.strongRecOn with
      | ind i ih =>
        intro hi
        by_cases h : inS listed i
        · exact h
        · exfalso
          have : i ∈ Region.ready .any ops listed := mem_ready.2 ⟨by
            unfold inS at h
            rw [Array.getD_eq_getD_getElem?] at h ⊢
            rw [Array.getElem?_eq_getElem (by rw [hI.size]; exact hi)] at h ⊢
            simpa using h, ops[i], by simp, fun e he hb => by
              have hlt := hd.back i ops[i] e (by simp) he hb
              exact ih e.on hlt (by omega)⟩
          rw [hr] at this
          cases this
    have hm : m = ops.size := by
      rcases Nat.lt_or_ge m ops.size with h | h
      · exact absurd (all m h) (hI.ph.new ops[m] (by simp)).2
      · have := hI.ph.le; omega
    have hm' := hm
    subst hm
    obtain ⟨q, hq1, hq2, _, hq4⟩ := hI.cur
    have hc : get (s ops.size).objs id = some c := by
      rw [← hq2]
      refine box_const hF hq1 (Nat.le_refl _) (fun k x h1 h2 hx => ?_)
      cases hv : isVal x.op with
      | false => rfl
      | true => exact absurd (all k h2) (hq4 k x h1 hx hv)
    have hlaid : ∀ j, G.A j → j < (s ops.size).next := fun j hj => by
      rcases hI.laid j hj with h | ⟨i, h1, h2, h3⟩
      · exact Nat.lt_of_lt_of_le h (next_monoD hF (Nat.zero_le _) (Nat.le_refl _))
      · have hi := inS_lt h1
        rw [hI.size] at hi
        exact Nat.lt_of_lt_of_le h3 (next_monoD hF (by omega) (Nat.le_refl _))
    obtain ⟨hM2, hp2⟩ := mem_later hI.mem hlaid (fun x _ => (ovr_eq hc x).symm)
    refine hQ G a w ⟨hM2, fun k u hu => ?_, fun k u hu => ?_, hI.tmps, hlaid, wf_allD hF (Nat.le_refl _), hI.defers⟩
    · rcases env_atD hF (Nat.le_refl _) k u hu with ⟨i, x, h1, h2, h3, rfl⟩ | ⟨h1, h2⟩
      · exact (av i).rep_pres hp2 _ (hI.done i x k (all i h1) h2 h3)
      · exact u.rep_pres hp2 _ (hI.kept k u h2 (fun i x hi hx => h1 i x (Array.getElem?_eq_some_iff.1 hx).1 hx))
    · rcases env_atD hF (Nat.le_refl _) k u hu with ⟨i, x, h1, h2, h3, rfl⟩ | ⟨h1, h2⟩
      · exact .inl ((hF.fact i x h2).dst k h3)
      · exact hF.lt k u h2
  intro fuel
  induction fuel with
  | zero =>
    intro listed m c G a w hcn hI
    have hr : Region.ready .any ops listed = [] := by
      refine List.eq_nil_iff_forall_not_mem.2 (fun j hj => ?_)
      obtain ⟨h1, o, h2, _⟩ := mem_ready.1 hj
      have hjn : j < ops.size := (Array.getElem?_eq_some_iff.1 h2).1
      have h0 : (List.range ops.size).countP (fun i => !listed.getD i false) = 0 := by omega
      have := List.countP_eq_zero.1 h0 j (by simp [hjn])
      rw [Array.getD_eq_getD_getElem?] at h1 this
      rw [Array.getElem?_eq_getElem (by rw [hI.size]; exact hjn)] at h1 this
      simp at h1 this
      rw [h1] at this
      cases this
    exact ⟨hr, fin listed m c G a w hI hr⟩
  | succ fuel ih =>
    intro listed m c G a w hcn hI
    refine ⟨fin listed m c G a w hI, fun j hj => ?_⟩
    obtain ⟨hun, o, ho, _⟩ := mem_ready.1 hj
    have hjn : j < ops.size := (Array.getElem?_eq_some_iff.1 ho).1
    have hjl : j < listed.size := by rw [hI.size]; exact hjn
    have hnj := not_listed hI.size hjn hj
    have hcnt : (List.range ops.size).countP (fun i => !(listed.setIfInBounds j true).getD i false) ≤ fuel := by
      have := countP_lt (p := fun i => !listed.getD i false) (q := fun i => !(listed.setIfInBounds j true).getD i false) (l := List.range ops.size) (x := j) (fun y _ hy => by
        by_cases h : inS listed y
        · have := inS_set_mono (i := j) h
          unfold inS at this
          rw [this] at hy
          cases hy
        · unfold inS at h
          cases hb : listed.getD y false with
          | true => exact absurd hb h
          | false => rfl) (by simp [hjn]) (by unfold inS at hnj; cases hb : listed.getD j false with | true => exact absurd hb hnj | false => rfl)
          (by have := getD_set_same hjl; unfold inS at this; simp [this])
      omega
    have hf := hF.fact j o ho
    have hsl := slots_atDL hF hd hI ho hj
    have same : clsO ops o ≠ 2 → Phase ops (listed.setIfInBounds j true) m := fun h2 => ⟨hI.ph.le, fun i x hi hx hcx => inS_set_mono (hI.ph.old i x hi hx hcx), fun x hx => by
      obtain ⟨h3, h4⟩ := hI.ph.new x hx
      refine ⟨h3, fun h5 => ?_⟩
      rcases inS_set h5 with h5 | rfl
      · exact h4 h5
      · rw [ho] at hx; injection hx with hx; subst hx; exact h2 h3⟩
    -- the box where the operation is no call
    have curN : isVal o.op = false → ∃ q, q ≤ ops.size ∧ get (s q).objs id = some c ∧ (∀ (i : Nat) o, i < q → ops[i]? = some o → isVal o.op = true → inS (listed.setIfInBounds j true) i) ∧ ∀ (i : Nat) o, q ≤ i → ops[i]? = some o → isVal o.op = true → ¬ inS (listed.setIfInBounds j true) i := fun hv => by
      obtain ⟨q, h1, h2, h3, h4⟩ := hI.cur
      refine ⟨q, h1, h2, fun i x hi hx hvx => inS_set_mono (h3 i x hi hx hvx), fun i x hi hx hvx hin => ?_⟩
      rcases inS_set hin with h5 | rfl
      · exact h4 i x hi hx hvx h5
      · rw [ho] at hx; injection hx with hx; subst hx; rw [hv] at hvx; cases hvx
    have curV : isVal o.op = true → ∀ c', get (s (j + 1)).objs id = some c' → ∃ q, q ≤ ops.size ∧ get (s q).objs id = some c' ∧ (∀ (i : Nat) o, i < q → ops[i]? = some o → isVal o.op = true → inS (listed.setIfInBounds j true) i) ∧ ∀ (i : Nat) o, q ≤ i → ops[i]? = some o → isVal o.op = true → ¬ inS (listed.setIfInBounds j true) i := fun hv c' hc' => by
      obtain ⟨_, h3, h4⟩ := cur_atL hF hd hI ho hj (fun x hx => ⟨conflictL_val hx hv, conflictL_val hv hx⟩)
      refine ⟨j + 1, hjn, hc', fun i x hi hx hvx => ?_, fun i x hi hx hvx hin => ?_⟩
      · rcases Nat.lt_or_ge i j with h | h
        · exact inS_set_mono (h3 i x h hx hvx)
        · have : i = j := by omega
          subst this
          exact getD_set_same hjl
      · rcases inS_set hin with h5 | h5
        · exact h4 i x (by omega) hx hvx h5
        · omega
    rcases clsO_le ops o with h0 | h1 | h2
    · obtain ⟨_, hg⟩ := hf.a h0
      have hv : isVal o.op = false := by
        cases hv : isVal o.op with
        | false => rfl
        | true => rw [clsO_val hv] at h0; cases h0
      refine hg _ G w a _ Q hsl (fun u hu => ih _ m c G _ w hcnt (inv_stepDL hF hd hI ho hj (same (by omega)) hI.mem Pres.refl hu (fun x hx => .inl hx) (curN hv)))
    · cases hlo : isLite o.op with
      | true =>
        obtain ⟨hnx, hg⟩ := hL.lite j o ho hlo
        refine hg w0 (ovr (s m).objs id c) G w a _ Q (fun x ob hob => ?_) hI.mem hsl (fun x hx1 hx2 => absurd hx1 (Nat.not_le_of_lt hx2)) (fun G' u w' hM' hp hu hA => ih _ m c G' _ w' hcnt (inv_stepDL hF hd hI ho hj (same (by omega)) hM' hp hu (fun x hx => (hA x hx).imp_right (fun h => absurd h.1 (Nat.not_le_of_lt h.2))) (curN (lite_val hlo))))
        have hne : x ≠ id := fun e => by rw [e, hL.nid] at hob; cases hob
        rw [ovr_other _ _ _ hne]
        exact hL.frm m hI.ph.le x ob hob
      | false =>
        have hjm : j < m := by
          rcases Nat.lt_or_ge j m with h | h
          · exact h
          · exfalso
            have hmn : m < ops.size := by omega
            obtain ⟨h3, h4⟩ := hI.ph.new ops[m] (by simp)
            have hne : m ≠ j := fun e => by
              subst e
              rw [Array.getElem?_eq_getElem hmn] at ho
              injection ho with ho
              rw [ho] at h3
              omega
            exact h4 (ready_reach hI.closed hj ((hd.pair j m ops[m] o (by omega) (by simp) ho).2 (conflictL_me (lite_cls h3) (by first | exact hlo | exact lite_cls h2) (.inl ⟨h3, by omega⟩))))
        have hext := objs_extD hF (i := j + 1) (j := m) (by omega) hI.ph.le (fun k x hk1 hk2 hx hcx => by
          have hk := hI.ph.old k x hk2 hx hcx
          exact hnj (reach_in hI.closed ((hd.pair k j o x (by omega) ho hx).2 (conflictL_me (by first | exact hlo | exact lite_cls h2) (lite_cls hcx) (.inr ⟨hcx, by omega⟩))) hk))
        have hobj : ∀ x ob, x ≠ id → get (s (j + 1)).objs x = some ob → get (ovr (s m).objs id c) x = some ob := fun x ob hne hob => by
          rw [ovr_other _ _ _ hne, hext x (hf.wf x ob hob) hne]; exact hob
        have hfresh : ∀ x, (s j).next ≤ x → x < (s (j + 1)).next → ¬ G.A x := fun x hx1 hx2 hA => by
          rcases hI.laid x hA with h | ⟨i, h3, h4, h5⟩
          · have := next_monoD hF (Nat.zero_le j) (Nat.le_of_lt hjn)
            omega
          · have hil := inS_lt h3
            rw [hI.size] at hil
            rcases Nat.lt_trichotomy i j with h | h | h
            · have := next_monoD hF (show i + 1 ≤ j from h) (Nat.le_of_lt hjn)
              omega
            · subst h; exact hnj h3
            · have := next_monoD hF (show j + 1 ≤ i from h) (Nat.le_of_lt hil)
              omega
        rcases hf.b h1 with ⟨hkeep, hg⟩ | ⟨hv, hg⟩
        · refine hg w0 (ovr (s m).objs id c) G w a _ Q hobj hI.mem hsl hfresh (fun G' u w' hM' hp hu hA => ih _ m c G' _ w' hcnt (inv_stepDL hF hd hI ho hj (same (by omega)) hM' hp hu (fun x hx => (hA x hx).imp_right (fun h => .inr ⟨j, getD_set_same hjl, h⟩)) ?_))
          cases hv : isVal o.op with
          | false => exact curN hv
          | true =>
            refine curV hv c ?_
            rw [hkeep]
            exact (cur_atL hF hd hI ho hj (fun x hx => ⟨conflictL_val hx hv, conflictL_val hv hx⟩)).1
        · obtain ⟨hcj, _, _⟩ := cur_atL hF hd hI ho hj (fun x hx => ⟨conflictL_val hx hv, conflictL_val hv hx⟩)
          obtain ⟨c', hc'⟩ := has_box hF (show j + 1 ≤ ops.size from hjn)
          refine hg w0 (ovr (s m).objs id c) (ovr (s m).objs id c') G w a _ Q hobj (by rw [ovr_same, hcj]) (fun x hne => by rw [ovr_other _ _ _ hne, ovr_other _ _ _ hne]) (by rw [ovr_same, hc']) hI.mem hsl hfresh
            (fun G' u w' hM' hp hu hA => ih _ m c' G' _ w' hcnt (inv_stepDL hF hd hI ho hj (same (by omega)) hM' hp hu (fun x hx => (hA x hx).imp_right (fun h => .inr ⟨j, getD_set_same hjl, h⟩)) (curV hv c' hc')))
    · have hv : isVal o.op = false := by
        cases hv : isVal o.op with
        | false => rfl
        | true => rw [clsO_val hv] at h2; cases h2
      have hjm : j = m := by
        rcases Nat.lt_trichotomy j m with h | h | h
        · exact absurd (hI.ph.old j o h ho h2) hnj
        · exact h
        · exfalso
          have hmn : m < ops.size := by omega
          obtain ⟨h3, h4⟩ := hI.ph.new ops[m] (by simp)
          exact h4 (ready_reach hI.closed hj ((hd.pair j m ops[m] o h (by simp) ho).2 (conflictL_me (lite_cls h3) (by first | exact hlo | exact lite_cls h2) (.inl ⟨h3, by omega⟩))))
      subst hjm
      have hlt : ∀ x, G.A x → x < (s j).next := by
        intro x hA
        rcases hI.laid x hA with h | ⟨i, h3, h4, h5⟩
        · exact Nat.lt_of_lt_of_le h (next_monoD hF (Nat.zero_le j) (Nat.le_of_lt hjn))
        · have hil := inS_lt h3
          rw [hI.size] at hil
          rcases Nat.lt_trichotomy i j with h | h | h
          · exact Nat.lt_of_lt_of_le h5 (next_monoD hF h (Nat.le_of_lt hjn))
          · subst h; exact absurd h3 hnj
          · exfalso
            have hx : ops[i]? = some ops[i] := by simp
            by_cases hci : clsO ops (ops[i]) = 0
            · have := ((hF.fact i _ hx).a hci).1
              omega
            · cases hli : isLite (ops[i]).op with
              | true => have := (hL.lite i _ hx hli).1; omega
              | false => exact hnj (reach_in hI.closed ((hd.pair i j o ops[i] h ho hx).2 (conflictL_me (lite_cls h2) hli (.inl ⟨h2, hci⟩))) h3)
      have hcf : ∀ x, isVal x.op = true → conflictL ops x o = true ∧ conflictL ops o x = true := fun x hx => by
        have h1 := clsO_val (ops := ops) hx
        exact ⟨conflictL_me (val_lite hx) (lite_cls h2) (.inr ⟨h2, by omega⟩), conflictL_me (lite_cls h2) (val_lite hx) (.inl ⟨h2, by omega⟩)⟩
      obtain ⟨hcj, _, _⟩ := cur_atL hF hd hI ho hj hcf
      obtain ⟨hM1, hp1⟩ := mem_later hI.mem hlt (fun x _ => (ovr_eq hcj x).symm)
      have hsl1 : Slots nt ops o (s j).env (s j).objs G w a := ⟨hsl.1, fun k hk u hu => ⟨(hsl.2 k hk u hu).1, u.rep_pres hp1 _ (hsl.2 k hk u hu).2⟩⟩
      obtain ⟨m', hm1, hm2, hm3, hm4⟩ := phase_next (ops.size - (j + 1)) ops.size (j + 1) rfl (by omega) (fun i => match ops[i]? with | some x => Nat.beq (clsO ops x) 2 | none => false)
      have hno : ∀ (k : Nat) x, j + 1 ≤ k → k < m' → ops[k]? = some x → clsO ops x ≠ 2 := by
        intro k x h1 h2 h3 h4
        have := hm3 k h1 h2
        simp [h3, h4] at this
      have hext := objs_extD hF (i := j + 1) (j := m') hm1 hm2 hno
      have hph : Phase ops (listed.setIfInBounds j true) m' := by
        refine ⟨hm2, fun i x hi hx hcx => ?_, fun x hx => ?_⟩
        · rcases Nat.lt_trichotomy i j with h | h | h
          · exact inS_set_mono (hI.ph.old i x h hx hcx)
          · subst h; exact getD_set_same hjl
          · exact absurd hcx (hno i x h hi hx)
        · have hlt' : m' < ops.size := (Array.getElem?_eq_some_iff.1 hx).1
          have hc2 := hm4 hlt'
          simp only [hx] at hc2
          have hc2 := Nat.eq_of_beq_eq_true hc2
          refine ⟨hc2, fun h => ?_⟩
          rcases inS_set h with h | rfl
          · exact hnj (reach_in hI.closed ((hd.pair m' j o x (by omega) ho hx).2 (conflictL_me (lite_cls h2) (lite_cls hc2) (.inl ⟨h2, by omega⟩))) h)
          · omega
      have hcj1 : get (s (j + 1)).objs id = some c := by rw [hf.keep hv]; exact hcj
      refine hf.e h2 w0 G w a _ Q hM1 hsl1 hlt (fun G' u w' hM' hp hu hA => ?_)
      obtain ⟨hM2, hp2⟩ := mem_later (O' := ovr (s m').objs id c) hM' hA (fun x hx => by
        by_cases e : x = id
        · subst e; rw [ovr_same, hcj1]
        · rw [ovr_other _ _ _ e]; exact hext x hx e)
      refine ih _ m' c G' _ w' hcnt (inv_stepDL hF hd hI ho hj hph hM2 (hp1.trans (hp.trans hp2)) ((av j).rep_pres hp2 _ hu) (fun x hx => ?_) (curN hv))
      right
      by_cases h0 : x < (s 0).next
      · exact .inl h0
      · obtain ⟨i, h3, h4, h5⟩ := range_of (s := s) (j + 1) x (by omega) (hA x hx)
        refine .inr ⟨i, ?_, h4, h5⟩
        rcases Nat.lt_or_ge i j with h | h
        · have hx' : ops[i]? = some ops[i] := by simp
          cases hli : isLite (ops[i]).op with
          | true => have := (hL.lite i _ hx' hli).1; omega
          | false =>
            refine inS_set_mono (ready_reach hI.closed hj ((hd.pair j i ops[i] o h hx' ho).2 (conflictL_me hli (lite_cls h2) (.inr ⟨h2, fun hci => ?_⟩))))
            have := ((hF.fact i _ hx').a hci).1
            omega
        · have : i = j := by omega
          subst this
          exact getD_set_same hjl

theorem evOpsDL_trace (hE : TOk P E) {K : St → Prop} {O0 : List (Nat × Ob)} (hnid : get O0 id = none) : ∀ (l : List Oper) (p : Nat) (σ : St), (∀ i o, l[i]? = some o → ops[p + i]? = some o) → σ.wf → (∀ x ob, get O0 x = some ob → get σ.objs x = some ob) → evOpsDL P E nt O0 ops id l K σ →
    ∃ (s : Nat → St) (av : Nat → AV), s p = σ ∧ (∀ i o, l[i]? = some o → FactD P nt ops (p + i) o id (s (p + i)) (av (p + i)) (s (p + i + 1))) ∧ K (s (p + l.length)) ∧
      (∀ i o, l[i]? = some o → (∀ x ob, get O0 x = some ob → get (s (p + i + 1)).objs x = some ob) ∧ (isLite o.op = true → (s (p + i + 1)).next = (s (p + i)).next ∧ GoB P nt ops (p + i) o ⟨(s (p + i)).env, O0, (s (p + i)).next⟩ (av (p + i)) ⟨(s (p + i)).env, O0, (s (p + i)).next⟩))
  | [], p, σ, _, _, _, h => ⟨fun _ => σ, fun _ => .junk, rfl, by simp, h, by simp⟩
  | o :: rest, p, σ, hl, hw, hO, h => by
    have hi : ops[p]? = some o := by simpa using hl 0 o (by simp)
    simp only [evOpsDL, putK_eq] at h
    rcases scase_out h with ⟨hd0, h⟩ | ⟨_, h⟩
    case inr => exact h.elim
    simp only [Bool.and_eq_true] at hd0
    obtain ⟨hd, hgg⟩ := hd0
    have hg : o.guard = none := by unfold noG at hgg; split at hgg <;> first | assumption | cases hgg
    have next : ∀ {v : AV} {σ' : St}, FactD P nt ops p o id σ v σ' → (∀ x ob, get O0 x = some ob → get σ'.objs x = some ob) → (isLite o.op = true → σ'.next = σ.next ∧ GoB P nt ops p o ⟨σ.env, O0, σ.next⟩ v ⟨σ.env, O0, σ.next⟩) → evOpsDL P E nt O0 ops id rest K σ' → ∃ (s : Nat → St) (av : Nat → AV), s p = σ ∧ (∀ i q, (o :: rest)[i]? = some q → FactD P nt ops (p + i) q id (s (p + i)) (av (p + i)) (s (p + i + 1))) ∧ K (s (p + (o :: rest).length)) ∧
        (∀ i q, (o :: rest)[i]? = some q → (∀ x ob, get O0 x = some ob → get (s (p + i + 1)).objs x = some ob) ∧ (isLite q.op = true → (s (p + i + 1)).next = (s (p + i)).next ∧ GoB P nt ops (p + i) q ⟨(s (p + i)).env, O0, (s (p + i)).next⟩ (av (p + i)) ⟨(s (p + i)).env, O0, (s (p + i)).next⟩)) := by
      intro v σ' hf hfr' hlt h
      obtain ⟨s, av, h1, h2, h3, h4⟩ := evOpsDL_trace hE hnid rest (p + 1) σ' (fun i q hq => by
        have := hl (i + 1) q (by simpa using hq)
        rw [show p + 1 + i = p + (i + 1) by omega]; exact this) hf.wf hfr' h
      refine ⟨fun i => if i = p then σ else s i, fun i => if i = p then v else av i, by simp, fun i q hq => ?_, ?_, fun i q hq => ?_⟩
      · cases i with
        | zero =>
          simp at hq
          subst hq
          simpa [h1] using hf
        | succ i =>
          have := h2 i q (by simpa using hq)
          rw [show p + 1 + i = p + (i + 1) by omega] at this
          have e1 : p + (i + 1) ≠ p := by omega
          have e2 : p + (i + 1) + 1 ≠ p := by omega
          simp only [e1, e2, if_false]
          exact this
      · have e1 : p + (rest.length + 1) ≠ p := by omega
        simp only [List.length_cons, e1, if_false]
        rw [show p + (rest.length + 1) = p + 1 + rest.length by omega]
        exact h3
      · cases i with
        | zero =>
          simp at hq
          subst hq
          have e2 : p + 1 ≠ p := by omega
          simp only [Nat.add_zero, e2, if_false, if_true, h1]
          exact ⟨hfr', hlt⟩
        | succ i =>
          have := h4 i q (by simpa using hq)
          rw [show p + 1 + i = p + (i + 1) by omega] at this
          have e1 : p + (i + 1) ≠ p := by omega
          have e2 : p + (i + 1) + 1 ≠ p := by omega
          simp only [e1, e2, if_false]
          exact this
    split at h
    · rename_i hlo
      have hwτ : St.wf ⟨σ.env, O0, σ.next⟩ := fun x ob hx => hw x ob (hO x ob hx)
      obtain ⟨v, τ, ⟨⟨ho1, ho2⟩, hk⟩, hf⟩ := fact_run (nt := nt) (σ := ⟨σ.env, O0, σ.next⟩) (τ := ⟨σ.env, O0, σ.next⟩) hE hi hwτ hd (fun _ _ h => h) rfl rfl (fun O G w a _ => by simp [Region.wanted, hg]) h
      have hgb : GoB P nt ops p o ⟨σ.env, O0, σ.next⟩ v ⟨σ.env, O0, σ.next⟩ := by
        have h5 := hf.b (lite_clsO hlo)
        obtain ⟨q1, q2, _⟩ := put_st τ o.dst v
        unfold GoB at h5 ⊢
        rw [q1, q2, ho1, ho2] at h5
        exact h5
      obtain ⟨p1, p2, p3⟩ := put_st σ o.dst v
      refine next (v := v) (σ' := σ.put o.dst v) ⟨hi, hf.dst, (by rw [p2]; exact Nat.le_refl _), p3 hw, put_env (fun _ _ h => h) rfl, (fun h0 => (by rw [p1]; exact h0)), (fun _ x _ _ => (by rw [p1])), (fun _ => (by rw [p1])), (fun h0 => (by rw [lite_clsO hlo] at h0; cases h0)), (fun _ => Or.inl ⟨(by rw [p1]), ?_⟩), (fun h0 => (by rw [lite_clsO hlo] at h0; cases h0))⟩ (by rw [p1]; exact hO) (fun _ => ⟨p2, hgb⟩) hk
      intro w0 O G w a Kc Q hsub hM hs hfr2 hK
      rw [p1] at hsub
      rw [p2] at hfr2 hK
      exact hgb w0 O G w a Kc Q (fun x ob hob => hsub x ob (fun e => by rw [e, hnid] at hob; cases hob) (hO x ob hob)) hM hs hfr2 hK
    · rename_i hlo
      have fin : ∀ {v : AV} {σ' : St}, frmL σ'.objs O0 → FactD P nt ops p o id σ v (σ'.put o.dst v) → evOpsDL P E nt O0 ops id rest K (σ'.put o.dst v) → ∃ (s : Nat → St) (av : Nat → AV), s p = σ ∧ (∀ i q, (o :: rest)[i]? = some q → FactD P nt ops (p + i) q id (s (p + i)) (av (p + i)) (s (p + i + 1))) ∧ K (s (p + (o :: rest).length)) ∧
        (∀ i q, (o :: rest)[i]? = some q → (∀ x ob, get O0 x = some ob → get (s (p + i + 1)).objs x = some ob) ∧ (isLite q.op = true → (s (p + i + 1)).next = (s (p + i)).next ∧ GoB P nt ops (p + i) q ⟨(s (p + i)).env, O0, (s (p + i)).next⟩ (av (p + i)) ⟨(s (p + i)).env, O0, (s (p + i)).next⟩)) := by
        intro v σ' hfo hf hk
        obtain ⟨p1, _, _⟩ := put_st σ' o.dst v
        exact next hf (fun x ob hob => by rw [p1]; exact frmL_get hfo hob) (fun h0 => by rw [hlo] at h0; cases h0) hk
      unfold evOpD at h
      split at h
      · rename_i hv
        rcases h with h | h
        · obtain ⟨av, σ', ⟨hfo, hk⟩, hf⟩ := curO_fact (nt := nt) hE hi hw hd hg hv h
          exact fin hfo hf hk
        · obtain ⟨av, σ', ⟨hfo, hk⟩, hf⟩ := hidO_fact (nt := nt) hE hi hw hd hg (by rw [clsO_val hv]; decide) h
          exact fin hfo hf hk
      · rename_i hv
        split at h
        · rename_i hb
          have hc2 := Nat.eq_of_beq_eq_true hb
          obtain ⟨av, σ', ⟨hkeep, hfo, hk⟩, hf⟩ := fact_run (nt := nt) hE hi hw hd (fun _ _ h => h) rfl rfl (fun O G w a _ => by simp [Region.wanted, hg]) h
          obtain ⟨p1, p2, p3⟩ := put_st σ' o.dst av
          exact fin hfo ⟨hf.op, hf.dst, hf.next, hf.wf, hf.env, fun ⟨c, hc⟩ => ⟨c, by rw [p1, hkeep]; exact hc⟩, fun hc => absurd hc2 hc, fun _ => by rw [p1]; exact hkeep, (fun hc => by omega), (fun hc => by omega), hf.e⟩ hk
        · rename_i hb
          obtain ⟨av, σ', ⟨hfo, hk⟩, hf⟩ := hidO_fact (nt := nt) hE hi hw hd hg (fun e => by rw [e] at hb; cases hb) h
          exact fin hfo hf hk

/-- THE DRAWN REGION, with calls that are given a pointer to a box. -/
theorem draw_soundDL (hE : TOk P E) (hm : P.follows .mixedOrders = true) (nt : Nat) (w0 : Base) (rid : Nat) (ops : Array Oper) (id : Nat) (K : St → Prop) (σ : St) (G : Gh) (a : Act) (w : World) (O0 : List (Nat × Ob)) (hnid : get O0 id = none) (hO : ∀ x ob, get O0 x = some ob → get σ.objs x = some ob) (hok : drawOKL ops = true) (hbox : ∃ c, get σ.objs id = some c)
    (h : evOpsDL P E nt O0 ops id ops.toList K σ) (hR : Rel w0 σ G nt a w) : (Code.region rid ops true).wp P (Post w0 nt fun e σ' => e = .normal ∧ K σ') a w := by
  obtain ⟨s, av, h1, h2, h3, h4⟩ := evOpsDL_trace hE hnid ops.toList 0 σ (fun i o hi => by simpa using hi) hR.wf hO h
  have hF : FactsD P nt ops id s av := ⟨fun i o ho => by have := h2 i o (by simpa using ho); simpa using this, by rw [h1]; exact hR.wf, by rw [h1]; exact hR.lt, by rw [h1]; exact hbox⟩
  have hL : LiteD P nt ops id O0 s av := ⟨hnid, fun i hi x ob hob => by
      cases i with
      | zero => rw [h1]; exact hO x ob hob
      | succ i => have := (h4 i ops[i] (by simp)).1 x ob hob; simpa using this, fun i o ho hl => by
      have := (h4 i o (by simpa using ho)).2 hl
      simpa using this⟩
  have hd := drawOKL_spec hok
  simp only [Array.length_toList, Nat.zero_add] at h3
  refine wp_region_any hm ?_
  have no : ∀ i, ¬ inS (Array.replicate ops.size false) i := fun i h => by
    unfold inS at h
    rw [Array.getD_eq_getD_getElem?, Array.getElem?_replicate] at h
    split at h <;> simp at h
  obtain ⟨m, _, hm2, hm3, hm4⟩ := phase_next (ops.size - 0) ops.size 0 rfl (by omega) (fun i => match ops[i]? with | some x => Nat.beq (clsO ops x) 2 | none => false)
  have hno : ∀ (k : Nat) x, 0 ≤ k → k < m → ops[k]? = some x → clsO ops x ≠ 2 := by
    intro k x h1 h2 h3 h4
    have := hm3 k h1 h2
    simp [h3, h4] at this
  have hM0 : Mem w0 σ.objs G { w with drawn := w.drawn + 1 } ∧ Pres σ.objs G w σ.objs G { w with drawn := w.drawn + 1 } :=
    hR.mem.step (fun id => Lv σ.objs G id) (fun _ => False) (fun id h => ⟨h, rfl⟩) ⟨rfl, rfl⟩ (fun id h => ⟨h, rfl, rfl, rfl⟩) (fun id h => .inl h) rfl rfl rfl (Nat.le_refl _) (fun b _ _ => rfl)
      (fun _ h => h.elim) (fun _ _ h => h.elim) (fun _ h => h.elim) (fun _ h => h.elim) (fun _ _ h => h.elim)
  have hlt : ∀ j, G.A j → j < (s 0).next := fun j hj => by rw [h1]; exact hR.fresh j hj
  obtain ⟨c, hc⟩ := hbox
  obtain ⟨hM1, hp1⟩ := mem_later (O' := ovr (s m).objs id c) hM0.1 hR.fresh (fun x hx => by
    by_cases e : x = id
    · subst e; rw [ovr_same, hc]
    · rw [ovr_other _ _ _ e, objs_extD hF (Nat.zero_le m) hm2 hno x (by rw [h1]; exact hx) e, h1])
  have hp := hM0.2.trans hp1
  refine draw_anyDL (w0 := w0) hF hL hd (fun G' a' w' hR' => ⟨.normal, s ops.size, G', rfl, ⟨rfl, h3⟩, hR'⟩) ops.size _ m c G a _ ?_ ⟨by simp, fun i o e hi => absurd hi (no i), ⟨hm2, fun i o hi ho hc => absurd hc (hno i o (Nat.zero_le _) hi ho), fun o ho => ⟨?_, no m⟩⟩, hM1, fun j hj => .inl (hlt j hj), fun i o k hi => absurd hi (no i), fun k u hu _ => ?_, ⟨0, Nat.zero_le _, by rw [h1]; exact hc, fun i o hi => by omega, fun i o _ _ _ => no i⟩, hR.size, hR.defers⟩
  · exact Nat.le_trans List.countP_le_length (by simp)
  · have := hm4 (Array.getElem?_eq_some_iff.1 ho).1
    simp only [ho] at this
    exact Nat.eq_of_beq_eq_true this
  · rw [h1] at hu
    exact u.rep_pres hp _ (hR.env k u hu)


/-- A drawn region with calls that are given a pointer to a box; the objects D may change, the others stay. -/
theorem regAt_liteD (hE : TOk P E) (hm : P.follows .mixedOrders = true) {rid : Nat} {K : St → Prop} {σ : St} (id : Nat) (D : List Nat) (hd : drawOKL ops = true) (hbox : ∃ c, get σ.objs id = some c) (hn : get (delL σ.objs D) id = none)
    (h : evOpsDL P E nt (delL σ.objs D) ops id ops.toList K σ) : RegAt P nt (.region rid ops true) K σ := by
  intro w0 G a w hR
  refine wp_mono (draw_soundDL hE hm nt w0 rid ops id K σ G a w (delL σ.objs D) hn (fun _ _ hx => delL_get hx) hd hbox h hR) ?_
  rintro e a' w' ⟨ex, σ', G', rfl, ⟨rfl, hk⟩, hR'⟩
  exact ⟨rfl, σ', G', hk, hR'⟩
end
end Go.Vm
