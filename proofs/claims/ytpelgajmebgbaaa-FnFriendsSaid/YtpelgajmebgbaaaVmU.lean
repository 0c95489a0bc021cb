/-
  The contract of a function that writes in place, from the evaluation of its body.
  Conditions: the table of types fits the program ('TOk').
-/
import Derived.Test.YtpelgajmebgbaaaVmS
namespace Go.Vm
open Go.RowKit

structure ImpM (w : World) (σ σ' : St) (l : List (Value × (List Nat × List Nat))) (F : List Nat) (R : List (Nat × Ob) → Gh → Prop) : Prop where
  ext : σ.ext σ'
  wf : σ'.wf
  next : σ'.next = σ.next + l.length
  flat : (l.map (·.2.1)).flatten = F
  hds : ∀ p ∈ l, ∀ b ∈ p.2.2, b ∈ p.2.1
  have_ : ∀ k, k < l.length → ∃ o, get σ'.objs (σ.next + k) = some o
  obs : ∀ k (hk : k < l.length) o, get σ'.objs (σ.next + k) = some o → ∀ O G, G.φ (σ.next + k) = l[k].1 → (G.Φ (σ.next + k) = l[k].2.1 ∧ G.h (σ.next + k) = l[k].2.2) → o.rep O G w (σ.next + k)
  rep : ∀ O G, (∀ k (hk : k < l.length), G.A (σ.next + k) ∧ G.φ (σ.next + k) = l[k].1) → R O G

theorem ImpM.cons {w : World} {σ a b : St} {l m : List (Value × (List Nat × List Nat))} {F1 F2 : List Nat} {R1 R2 : List (Nat × Ob) → Gh → Prop} (h : ImpM w σ a l F1 R1) (k : ImpM w a b m F2 R2) :
    ImpM w σ b (l ++ m) (F1 ++ F2) (fun O G => R1 O G ∧ R2 O G) := by
  have hn := h.next
  refine ⟨St.ext_trans h.ext k.ext, k.wf, by rw [k.next, h.next, List.length_append]; omega, by rw [List.map_append, List.flatten_append, h.flat, k.flat], fun p hp => ?_, fun i hi => ?_, fun i hi o hg O G hφ hΦ => ?_, fun O G hG => ⟨h.rep O G fun i hi => ?_, k.rep O G fun i hi => ?_⟩⟩
  · rcases List.mem_append.1 hp with hp | hp
    · exact h.hds p hp
    · exact k.hds p hp
  · by_cases hlt : i < l.length
    · obtain ⟨o, ho⟩ := h.have_ i hlt
      exact ⟨o, by rw [k.ext.objs _ (by omega)]; exact ho⟩
    · rw [List.length_append] at hi
      obtain ⟨o, ho⟩ := k.have_ (i - l.length) (by omega)
      exact ⟨o, by rw [← ho, hn]; congr 1; omega⟩
  · by_cases hlt : i < l.length
    · rw [List.getElem_append_left hlt] at hφ hΦ
      exact h.obs i hlt o (by rw [← hg]; exact (k.ext.objs _ (by omega)).symm) O G hφ hΦ
    · have e : a.next + (i - l.length) = σ.next + i := by omega
      rw [List.getElem_append_right (by omega)] at hφ hΦ
      rw [List.length_append] at hi
      have := k.obs (i - l.length) (by omega) o (by rw [e]; exact hg) O G (by rw [e]; exact hφ) (by rw [e]; exact hΦ)
      rwa [e] at this
  · have := hG i (by rw [List.length_append]; omega)
    rw [List.getElem_append_left hi] at this
    exact this
  · have e : a.next + i = σ.next + (l.length + i) := by omega
    have := hG (l.length + i) (by rw [List.length_append]; omega)
    rw [List.getElem_append_right (by omega)] at this
    rw [e]
    simpa using this

theorem impMC {w : World} {σ : St} (hw : σ.wf) : ∀ (x : RC) {v : Value} {F : List Nat}, x.mrep w v F → ∃ l, ImpM w σ (impC σ x).2 l F (fun O G => (impC σ x).1.rep O G w v)
  | .s x, v, F, ⟨⟨_, h⟩, hF⟩ => ⟨[], by
      subst hF
      exact ⟨σ.ext_refl, hw, rfl, rfl, by simp, by simp, by simp, fun O G _ => ⟨[], h, fun _ _ b hb => by simp at hb⟩⟩⟩
  | .l sz rows, v, F, h => h.elim
  | .w sz rows, v, F, ⟨css, F', h1, h2, h3, hF⟩ => by
      have key : ∃ H, (H = hd v ∨ (rows = [] ∧ H = [])) ∧ F = H ++ F' := by
        rcases hF with hF | ⟨h4, hF⟩
        · exact ⟨hd v, .inl rfl, hF⟩
        · subst h4
          simp only [repRows] at h1
          exact ⟨[], .inr ⟨rfl, rfl⟩, by rw [hF, h1.2]; rfl⟩
      obtain ⟨H, hH, hFH⟩ := key
      refine ⟨[(v, (F, H))], σ.ext_new _, St.wf_new σ hw _, rfl, by simp, by simp +contextual [hFH], fun k hk => ⟨_, by simp at hk; subst hk; exact σ.new_get _⟩, fun k hk o hg O G hφ hΦ => ?_, fun O G hG => ?_⟩
      · simp at hk
        subst hk
        have e : get (σ.new (.row true false sz rows)).objs σ.next = some o := hg
        rw [σ.new_get] at e
        injection e with e
        subst e
        have hφ' : G.φ σ.next = v := hφ
        have hΦ' : G.Φ σ.next = F := hΦ.1
        have hH' : G.h σ.next = H := hΦ.2
        show Ob.rep O G w σ.next _
        refine ⟨css, F', h1, h2, ?_, ?_⟩
        · simp only [Bool.false_eq_true, if_false]; rw [hφ', hH']; exact ⟨h3, hH⟩
        · simp only [if_true]; rw [hH', hΦ', hFH]
      · have := hG 0 (by simp)
        exact ⟨this.1, this.2.symm, h3.one⟩
theorem impMCs {w : World} : ∀ (xs : List RC) {σ : St} {vs : List Value} {F : List Nat}, σ.wf → repMCs w xs vs F → ∃ l, ImpM w σ (impCs σ xs).2 l F (fun O G => repCs O G w (impCs σ xs).1 vs)
  | [], σ, vs, F, hw, ⟨h1, h2⟩ => ⟨[], by subst h1 h2; exact ⟨σ.ext_refl, hw, rfl, rfl, by simp, by simp, by simp, fun O G _ => rfl⟩⟩
  | x :: xs, σ, vs, F, hw, ⟨v, vs', F1, F2, h1, h2, h3, h4⟩ => by
    subst h1 h2
    obtain ⟨l, hl⟩ := impMC hw x h3
    obtain ⟨m, hm⟩ := impMCs xs hl.wf h4
    have := hl.cons hm
    exact ⟨l ++ m, this.ext, this.wf, this.next, this.flat, this.hds, this.have_, this.obs, fun O G hG => by
      obtain ⟨a1, a2⟩ := this.rep O G hG
      exact ⟨v, vs', rfl, a1, a2⟩⟩
theorem impMV {w : World} {σ : St} (hw : σ.wf) : ∀ (x : RV) {v : Value} {F : List Nat}, x.mrep w v F → ∃ l, ImpM w σ (impV σ x).2 l F (fun O G => (impV σ x).1.rep O G w v)
  | .one x, v, F, h => by
    obtain ⟨l, this⟩ := impMC hw x h
    exact ⟨l, this.ext, this.wf, this.next, this.flat, this.hds, this.have_, this.obs, fun O G hG => by
      have := this.rep O G hG
      simp only [impV, AV.rep]; exact this⟩
  | .agg xs, v, F, ⟨vs, h1, h2⟩ => by
    obtain ⟨l, this⟩ := impMCs xs hw h2
    exact ⟨l, this.ext, this.wf, this.next, this.flat, this.hds, this.have_, this.obs, fun O G hG => by
      have := this.rep O G hG
      simp only [impV, AV.rep]; exact ⟨vs, h1, this⟩⟩

def mSt (m : RV) (as : List V) : St := ⟨(0, .pin (impV ⟨[], [], 0⟩ m).1) :: initEnv 1 as, (impV ⟨[], [], 0⟩ m).2.objs, (impV ⟨[], [], 0⟩ m).2.next⟩

/-- What the end of a body owes: one result, and what its first argument shows. -/
def retM (E : Nat → Option TI) (res : List ResultVar) (m' : RV) (y : T) : Ex → St → Prop
  | .exit _, _ => False
  | _, σ => resAV E σ res fun vs => match vs with
    | [.c (.t x)] => x = y ∧ need (get σ.env 0) fun
      | .pin av => need (mAV σ.objs av) fun q => q.1 = m' ∧ scase (nodupB q.2) True False
      | _ => False
    | _ => False

section
variable {P : Program} {E : Nat → Option TI}

theorem mutAt_of (hE : TOk P E) (hm : P.follows .mixedOrders = true) {f : FuncId} {fn : Func} {c : Code} (hf : P.funcs[f]? = some fn) (hb : fn.body = some c) (hn : (fn.name == "runtime.NumGoroutine") = false) {m m' : RV} {as : List V} {y : T} (hlen : Nat.ble (as.length + 1) fn.ntmps = true)
    (has : ∀ x ∈ as, ∃ z, x = .one z ∧ isScal z = true) (hy : isScal y = true)
    (h : ev P E fn.ntmps c (retM E fn.results.toList m' y) (mSt m as)) : MutAt P f m m' as y := by
  refine ⟨⟨fn, c, hf, hb, hn⟩, hy, fun w v vs F hmr hF hFc hvs => ?_⟩
  have hlen' := Nat.le_of_ble_eq_true hlen
  have hvl : ∀ {as : List V} {us : List Value}, repVs w as us → us.length = as.length := by
    intro as
    induction as with
    | nil => intro us h; simp only [repVs] at h; simp [h]
    | cons x xs ih => intro us h; obtain ⟨v, vs', F, h1, _, h3⟩ := h; subst h1; simp [ih h3]
  have hget : ∀ {as : List V} {us : List Value} {j : Nat} {x : V}, repVs w as us → as[j]? = some x → ∃ u F, us[j]? = some u ∧ x.rep w u F := by
    intro as
    induction as with
    | nil => intro us j x _ hj; simp at hj
    | cons y ys ih =>
      intro us j x h hj
      obtain ⟨v, vs', F, h1, h2, h3⟩ := h
      subst h1
      cases j with
      | zero => simp at hj; subst hj; exact ⟨v, F, by simp, h2⟩
      | succ j => obtain ⟨u, F', h4, h5⟩ := ih h3 (by simpa using hj); exact ⟨u, F', by simpa using h4, h5⟩
  have hwf0 : St.wf ⟨[], [], 0⟩ := fun id o ho => by cases ho
  obtain ⟨l, hI⟩ := impMV hwf0 m hmr
  have hnx : (impV ⟨[], [], 0⟩ m).2.next = l.length := by rw [hI.next]; simp
  let G0 : Gh := ⟨fun j => j < l.length, fun j => (l.getD j (undef, ([], []))).1, fun j => (l.getD j (undef, ([], []))).2.1, fun j => (l.getD j (undef, ([], []))).2.2, 0, v⟩
  have hg0 : ∀ k (hk : k < l.length), G0.φ k = l[k].1 ∧ G0.Φ k = l[k].2.1 ∧ G0.h k = l[k].2.2 := fun k hk => by
    simp only [G0, List.getD, List.getElem?_eq_getElem hk, Option.getD_some, and_self]
  have hfl : ((l.map (·.2.1)).flatten).Nodup := by rw [hI.flat]; exact hF
  have hnd := nodup_flat_get hfl
  have hmem : ∀ k (hk : k < l.length), ∀ b ∈ l[k].2.1, b ∈ F := fun k hk b hb => by
    rw [← hI.flat]
    exact List.mem_flatten.2 ⟨_, List.mem_map.2 ⟨l[k], List.getElem_mem hk, rfl⟩, hb⟩
  have hsz : ((v :: vs).toArray ++ Array.replicate (fn.ntmps - (v :: vs).toArray.size) undef).size = fn.ntmps := by
    have := hvl hvs
    simp
    omega
  have hR : Rel ⟨w, F, 0, v⟩ (mSt m as) G0 fn.ntmps { tmps := (v :: vs).toArray ++ Array.replicate (fn.ntmps - (v :: vs).toArray.size) undef, defers := [] } w := by
    refine ⟨⟨⟨rfl, rfl, rfl, Nat.le_refl _, fun _ _ _ => rfl⟩, Nat.zero_le _, ⟨rfl, rfl⟩, fun id o ha ho => ?_, fun id hl => ?_, fun i j hi hj hne => ?_, fun id hl b hb => ?_, fun id hl b hb => ?_⟩, fun k x hk => ?_, fun k x hk => ?_, hsz, fun j hj => by show j < (impV ⟨[], [], 0⟩ m).2.next; rw [hnx]; exact hj, fun id o ho => hI.wf id o ho, rfl⟩
    · have ha' : id < l.length := ha
      have hob := hI.obs id ha' o (by rw [Nat.zero_add]; exact ho) (mSt m as).objs G0
      simp only [Nat.zero_add] at hob
      exact hob (hg0 id ha').1 ⟨(hg0 id ha').2.1, (hg0 id ha').2.2⟩
    · have hl' : id < l.length := hl.1
      rw [(hg0 id hl').2.1]
      have := hnd.1 id (by simpa using hl')
      rwa [List.getElem_map] at this
    · have hi' : i < l.length := hi.1
      have hj' : j < l.length := hj.1
      rw [(hg0 i hi').2.1, (hg0 j hj').2.1]
      have := hnd.2 i j (by simpa using hi') (by simpa using hj') hne
      rwa [List.getElem_map, List.getElem_map] at this
    · have hl' : id < l.length := hl.1
      rw [(hg0 id hl').2.1] at hb
      have hbF := hmem id hl' b hb
      exact ⟨⟨.inr hbF, Nat.zero_le _⟩, hFc b hbF⟩
    · have hl' : id < l.length := hl.1
      rw [(hg0 id hl').2.2] at hb
      rw [(hg0 id hl').2.1]
      exact hI.hds _ (List.getElem_mem hl') b hb
    · by_cases e : k = 0
      · subst e
        have : some (AV.pin (impV ⟨[], [], 0⟩ m).1) = some x := by rw [← hk]; rfl
        injection this with this
        subst this
        have hv : ((v :: vs).toArray ++ Array.replicate (fn.ntmps - (v :: vs).toArray.size) undef).getD 0 undef = v := by
          rw [Array.getD_eq_getD_getElem?, Array.getElem?_append_left (by simp)]
          simp
        show AV.rep _ G0 w _ (Array.getD _ 0 undef)
        simp only [hv, AV.rep]
        exact ⟨hI.rep _ G0 (fun k hk => by simp only [Nat.zero_add]; exact ⟨hk, (hg0 k hk).1⟩), rfl⟩
      · have hk' : get (initEnv 1 as) k = some x := by
          have : get (mSt m as).env k = get (initEnv 1 as) k := get_cons_other _ _ _ _ e
          rw [← this]; exact hk
        obtain ⟨j, z, h1, h2, h3⟩ := initEnv_get hk'
        obtain ⟨u, Fu, h4, h5⟩ := hget hvs h2
        have hj : j < vs.length := (List.getElem?_eq_some_iff.1 h4).1
        have hv : ((v :: vs).toArray ++ Array.replicate (fn.ntmps - (v :: vs).toArray.size) undef).getD k undef = u := by
          rw [Array.getD_eq_getD_getElem?, Array.getElem?_append_left (by simp; omega)]
          rw [h1, Nat.add_comm]
          simp [h4]
        show AV.rep _ G0 w _ (Array.getD _ k undef)
        simp only [hv]
        subst h3
        obtain ⟨t, rfl, ht⟩ := has z (List.mem_of_getElem? h2)
        have hF0 := scal_none ht h5
        subst hF0
        cases t <;> simp [isScal] at ht <;> (simp only [initAV, ancC, AV.rep]; exact ⟨[], h5, fun _ _ b hb => by simp at hb⟩)
    · by_cases e : k = 0
      · omega
      · have hk' : get (initEnv 1 as) k = some x := by
          have : get (mSt m as).env k = get (initEnv 1 as) k := get_cons_other _ _ _ _ e
          rw [← this]; exact hk
        obtain ⟨j, z, h1, h2, _⟩ := initEnv_get hk'
        have := (List.getElem?_eq_some_iff.1 h2).1
        omega
  refine calls_of_wp hf hb (wp_mono (ev_sound hE (draw_sound hE hm fn.ntmps _) c h hR) ?_)
  rintro e a' w' ⟨ex, σ', G', rfl, hk, hR'⟩
  have fin : retM E fn.results.toList m' y .ret σ' → a'.defers = [] ∧ ∃ u, (results fn a'.tmps).run P w' = .ok u w' ∧
      ∃ u' F', Ending.returned u = .returned u' ∧ y.rep w' u' [] ∧ m'.mrep w' v F' ∧ F'.Nodup ∧ (∀ b ∈ F', (b ∈ F ∨ w.heap.size ≤ b) ∧ ∃ arr e, w'.heap[b]? = some (.cells arr e (0, 0))) ∧ BelowM F w w' := by
    intro hk
    unfold retM at hk
    obtain ⟨avs, us, h1, h2, h3⟩ := resAV_sound hE hR' hk
    split at h1
    case h_2 => exact h1.elim
    rename_i x
    obtain ⟨rfl, h1⟩ := h1
    have h' := need_some h1; clear h1
    obtain ⟨a0, e0, h1⟩ := h'
    split at h1
    case h_2 => exact h1.elim
    rename_i av
    have h' := need_some h1; clear h1
    obtain ⟨⟨mq, ids⟩, eq, rfl, h1⟩ := h'
    have hids : ids.Nodup := nodupB_iff (by rcases scase_out h1 with ⟨h, _⟩ | ⟨_, h⟩ <;> first | exact h | exact h.elim)
    have h0 := hR'.env 0 _ e0
    simp only [AV.rep] at h0
    obtain ⟨h01, h02⟩ := h0
    have hpin : a'.tmps.getD 0 undef = v := by rw [h02, hR'.mem.fix.2]
    rw [hpin] at h01
    obtain ⟨hmr', hlv⟩ := mAV_rep hR'.mem eq h01
    simp only [repAVs, AV.rep] at h2
    obtain ⟨u, us', rfl, ⟨Fx, h4, _⟩, rfl⟩ := h2
    have hFx := scal_none hy h4
    subst hFx
    obtain ⟨u', h9, h10⟩ := run_results h3
    have h9' : u' = u := h9
    subst h9'
    refine ⟨hR'.defers, u', h10, u', _, rfl, h4, hmr', flatΦ_nodup hR'.mem hids hlv, fun b hb => ?_, hR'.mem.below⟩
    obtain ⟨i, hi, hbi⟩ := mem_flatΦ hb
    obtain ⟨⟨h11, _⟩, h12⟩ := hR'.mem.lo i (hlv i hi) b hbi
    exact ⟨h11.symm, h12⟩
  cases ex with
  | normal => exact fin hk
  | ret => exact fin hk
  | exit id => exact hk.elim
end
end Go.Vm
