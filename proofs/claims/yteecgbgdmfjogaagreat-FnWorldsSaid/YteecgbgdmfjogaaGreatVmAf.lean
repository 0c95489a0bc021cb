/-
  The contract of a function that writes in place, from the evaluation of its body.
  Functions that are called with a pointer to a box of the caller: their contract, from the evaluation of a body, and what a call does; a function that is walked in the place of its call.
  Functions that are called with a pointer to a box of the caller, whose cells they may change: their contract, from the evaluation of a body, and what a call does.
  Contracts whose results are known up to a parameter that has a property: of a function of values, and of one that is called with a pointer to a box.
  Conditions: the table of types fits the program ('TOk').
-/
import Derived.Test.YteecgbgdmfjogaaGreatVmSd
namespace Go.Vm
open Go.RowKit

structure ImpM (w : World) (σ σ' : St) (l : List (Value × (List Nat × List Nat))) (F : List Nat) (R : List (Nat × Ob) → Gh → Prop) : Prop where
  ext : σ.ext σ'
  wf : σ'.wf
  next : σ'.next = σ.next + l.length
  flat : (l.map (·.2.1)).flatten = F
  hds : ∀ p ∈ l, ∀ b ∈ p.2.2, b ∈ p.2.1
  have_ : ∀ k, k < l.length → ∃ o, get σ'.objs (σ.next + k) = some o
  obs : ∀ k (hk : k < l.length) o, get σ'.objs (σ.next + k) = some o → ∀ O G, G.φ (σ.next + k) = l[k].1 → (G.Φ (σ.next + k) = l[k].2.1 ∧ G.h (σ.next + k) = l[k].2.2) → o.rep O G w (σ.next + k)
  rep : ∀ O G, (∀ k (hk : k < l.length), G.A (σ.next + k) ∧ G.φ (σ.next + k) = l[k].1) → R O G

theorem ImpM.cons {w : World} {σ a b : St} {l m : List (Value × (List Nat × List Nat))} {F1 F2 : List Nat} {R1 R2 : List (Nat × Ob) → Gh → Prop} (h : ImpM w σ a l F1 R1) (k : ImpM w a b m F2 R2) :
    ImpM w σ b (l ++ m) (F1 ++ F2) (fun O G => R1 O G ∧ R2 O G) := by
  have hn := h.next
  refine ⟨St.ext_trans h.ext k.ext, k.wf, by rw [k.next, h.next, List.length_append]; omega, by rw [List.map_append, List.flatten_append, h.flat, k.flat], fun p hp => ?_, fun i hi => ?_, fun i hi o hg O G hφ hΦ => ?_, fun O G hG => ⟨h.rep O G fun i hi => ?_, k.rep O G fun i hi => ?_⟩⟩
  · rcases List.mem_append.1 hp with hp | hp
    · exact h.hds p hp
    · exact k.hds p hp
  · by_cases hlt : i < l.length
    · obtain ⟨o, ho⟩ := h.have_ i hlt
      exact ⟨o, by rw [k.ext.objs _ (by omega)]; exact ho⟩
    · rw [List.length_append] at hi
      obtain ⟨o, ho⟩ := k.have_ (i - l.length) (by omega)
      exact ⟨o, by rw [← ho, hn]; congr 1; omega⟩
  · by_cases hlt : i < l.length
    · rw [List.getElem_append_left hlt] at hφ hΦ
      exact h.obs i hlt o (by rw [← hg]; exact (k.ext.objs _ (by omega)).symm) O G hφ hΦ
    · have e : a.next + (i - l.length) = σ.next + i := by omega
      rw [List.getElem_append_right (by omega)] at hφ hΦ
      rw [List.length_append] at hi
      have := k.obs (i - l.length) (by omega) o (by rw [e]; exact hg) O G (by rw [e]; exact hφ) (by rw [e]; exact hΦ)
      rwa [e] at this
  · have := hG i (by rw [List.length_append]; omega)
    rw [List.getElem_append_left hi] at this
    exact this
  · have e : a.next + i = σ.next + (l.length + i) := by omega
    have := hG (l.length + i) (by rw [List.length_append]; omega)
    rw [List.getElem_append_right (by omega)] at this
    rw [e]
    simpa using this

theorem impMC {w : World} {σ : St} (hw : σ.wf) : ∀ (x : RC) {v : Value} {F : List Nat}, x.mrep w v F → ∃ l, ImpM w σ (impC σ x).2 l F (fun O G => (impC σ x).1.rep O G w v)
  | .s x, v, F, ⟨⟨_, h⟩, hF⟩ => ⟨[], by
      subst hF
      exact ⟨σ.ext_refl, hw, rfl, rfl, by simp, by simp, by simp, fun O G _ => ⟨[], h, fun _ _ b hb => by simp at hb⟩⟩⟩
  | .l sz rows, v, F, h => h.elim
  | .w sz rows, v, F, ⟨css, F', h1, h2, h3, hF⟩ => by
      have key : ∃ H, (H = hd v ∨ (rows = [] ∧ H = [])) ∧ F = H ++ F' := by
        rcases hF with hF | ⟨h4, hF⟩
        · exact ⟨hd v, .inl rfl, hF⟩
        · subst h4
          simp only [repRows] at h1
          exact ⟨[], .inr ⟨rfl, rfl⟩, by rw [hF, h1.2]; rfl⟩
      obtain ⟨H, hH, hFH⟩ := key
      refine ⟨[(v, (F, H))], σ.ext_new _, St.wf_new σ hw _, rfl, by simp, by simp +contextual [hFH], fun k hk => ⟨_, by simp at hk; subst hk; exact σ.new_get _⟩, fun k hk o hg O G hφ hΦ => ?_, fun O G hG => ?_⟩
      · simp at hk
        subst hk
        have e : get (σ.new (.row true false sz rows)).objs σ.next = some o := hg
        rw [σ.new_get] at e
        injection e with e
        subst e
        have hφ' : G.φ σ.next = v := hφ
        have hΦ' : G.Φ σ.next = F := hΦ.1
        have hH' : G.h σ.next = H := hΦ.2
        show Ob.rep O G w σ.next _
        refine ⟨css, F', h1, h2, ?_, ?_⟩
        · simp only [Bool.false_eq_true, if_false]; rw [hφ', hH']; exact ⟨h3, hH⟩
        · simp only [if_true]; rw [hH', hΦ', hFH]
      · have := hG 0 (by simp)
        exact ⟨this.1, this.2.symm, h3.one⟩
theorem impMCs {w : World} : ∀ (xs : List RC) {σ : St} {vs : List Value} {F : List Nat}, σ.wf → repMCs w xs vs F → ∃ l, ImpM w σ (impCs σ xs).2 l F (fun O G => repCs O G w (impCs σ xs).1 vs)
  | [], σ, vs, F, hw, ⟨h1, h2⟩ => ⟨[], by subst h1 h2; exact ⟨σ.ext_refl, hw, rfl, rfl, by simp, by simp, by simp, fun O G _ => rfl⟩⟩
  | x :: xs, σ, vs, F, hw, ⟨v, vs', F1, F2, h1, h2, h3, h4⟩ => by
    subst h1 h2
    obtain ⟨l, hl⟩ := impMC hw x h3
    obtain ⟨m, hm⟩ := impMCs xs hl.wf h4
    have := hl.cons hm
    exact ⟨l ++ m, this.ext, this.wf, this.next, this.flat, this.hds, this.have_, this.obs, fun O G hG => by
      obtain ⟨a1, a2⟩ := this.rep O G hG
      exact ⟨v, vs', rfl, a1, a2⟩⟩
theorem impMV {w : World} {σ : St} (hw : σ.wf) : ∀ (x : RV) {v : Value} {F : List Nat}, x.mrep w v F → ∃ l, ImpM w σ (impV σ x).2 l F (fun O G => (impV σ x).1.rep O G w v)
  | .one x, v, F, h => by
    obtain ⟨l, this⟩ := impMC hw x h
    exact ⟨l, this.ext, this.wf, this.next, this.flat, this.hds, this.have_, this.obs, fun O G hG => by
      have := this.rep O G hG
      simp only [impV, AV.rep]; exact this⟩
  | .agg xs, v, F, ⟨vs, h1, h2⟩ => by
    obtain ⟨l, this⟩ := impMCs xs hw h2
    exact ⟨l, this.ext, this.wf, this.next, this.flat, this.hds, this.have_, this.obs, fun O G hG => by
      have := this.rep O G hG
      simp only [impV, AV.rep]; exact ⟨vs, h1, this⟩⟩

def mSt (m : RV) (as : List V) : St := ⟨(0, .pin (impV ⟨[], [], 0⟩ m).1) :: initEnv 1 as, (impV ⟨[], [], 0⟩ m).2.objs, (impV ⟨[], [], 0⟩ m).2.next⟩

/-- What the end of a body owes: one result, and what its first argument shows. -/
def retM (E : Nat → Option TI) (res : List ResultVar) (m' : RV) (y : T) : Ex → St → Prop
  | .exit _, _ => False
  | _, σ => resAV E σ res fun vs => match vs with
    | [.c (.t x)] => x = y ∧ need (get σ.env 0) fun
      | .pin av => need (mAV σ.objs av) fun q => q.1 = m' ∧ scase (nodupB q.2) True False
      | _ => False
    | _ => False

section
variable {P : Program} {E : Nat → Option TI}

theorem mutAt_of (hE : TOk P E) (hm : P.follows .mixedOrders = true) {f : FuncId} {fn : Func} {c : Code} (hf : P.funcs[f]? = some fn) (hb : fn.body = some c) (hn : (fn.name == "runtime.NumGoroutine") = false) {m m' : RV} {as : List V} {y : T} (hlen : Nat.ble (as.length + 1) fn.ntmps = true)
    (has : ∀ x ∈ as, ∃ z, x = .one z ∧ isScal z = true) (hy : isScal y = true)
    (h : ev P E fn.ntmps c (retM E fn.results.toList m' y) (mSt m as)) : MutAt P f m m' as y := by
  refine ⟨⟨fn, c, hf, hb, hn⟩, hy, fun w v vs F hmr hF hFc hvs => ?_⟩
  have hlen' := Nat.le_of_ble_eq_true hlen
  have hvl : ∀ {as : List V} {us : List Value}, repVs w as us → us.length = as.length := by
    intro as
    induction as with
    | nil => intro us h; simp only [repVs] at h; simp [h]
    | cons x xs ih => intro us h; obtain ⟨v, vs', F, h1, _, h3⟩ := h; subst h1; simp [ih h3]
  have hget : ∀ {as : List V} {us : List Value} {j : Nat} {x : V}, repVs w as us → as[j]? = some x → ∃ u F, us[j]? = some u ∧ x.rep w u F := by
    intro as
    induction as with
    | nil => intro us j x _ hj; simp at hj
    | cons y ys ih =>
      intro us j x h hj
      obtain ⟨v, vs', F, h1, h2, h3⟩ := h
      subst h1
      cases j with
      | zero => simp at hj; subst hj; exact ⟨v, F, by simp, h2⟩
      | succ j => obtain ⟨u, F', h4, h5⟩ := ih h3 (by simpa using hj); exact ⟨u, F', by simpa using h4, h5⟩
  have hwf0 : St.wf ⟨[], [], 0⟩ := fun id o ho => by cases ho
  obtain ⟨l, hI⟩ := impMV hwf0 m hmr
  have hnx : (impV ⟨[], [], 0⟩ m).2.next = l.length := by rw [hI.next]; simp
  let G0 : Gh := ⟨fun j => j < l.length, fun j => (l.getD j (undef, ([], []))).1, fun j => (l.getD j (undef, ([], []))).2.1, fun j => (l.getD j (undef, ([], []))).2.2, fun _ => False, v⟩
  have hg0 : ∀ k (hk : k < l.length), G0.φ k = l[k].1 ∧ G0.Φ k = l[k].2.1 ∧ G0.h k = l[k].2.2 := fun k hk => by
    simp only [G0, List.getD, List.getElem?_eq_getElem hk, Option.getD_some, and_self]
  have hfl : ((l.map (·.2.1)).flatten).Nodup := by rw [hI.flat]; exact hF
  have hnd := nodup_flat_get hfl
  have hmem : ∀ k (hk : k < l.length), ∀ b ∈ l[k].2.1, b ∈ F := fun k hk b hb => by
    rw [← hI.flat]
    exact List.mem_flatten.2 ⟨_, List.mem_map.2 ⟨l[k], List.getElem_mem hk, rfl⟩, hb⟩
  have hsz : ((v :: vs).toArray ++ Array.replicate (fn.ntmps - (v :: vs).toArray.size) undef).size = fn.ntmps := by
    have := hvl hvs
    simp
    omega
  have hR : Rel ⟨w, F, fun _ => False, v⟩ (mSt m as) G0 fn.ntmps { tmps := (v :: vs).toArray ++ Array.replicate (fn.ntmps - (v :: vs).toArray.size) undef, defers := [] } w := by
    refine ⟨⟨⟨rfl, rfl, rfl, Nat.le_refl _, fun _ _ _ => rfl⟩, fun _ h => h.elim, ⟨rfl, rfl⟩, fun id o ha ho => ?_, fun id hl => ?_, fun i j hi hj hne => ?_, fun id hl b hb => ?_, fun id hl b hb => ?_⟩, fun k x hk => ?_, fun k x hk => ?_, hsz, fun j hj => by show j < (impV ⟨[], [], 0⟩ m).2.next; rw [hnx]; exact hj, fun id o ho => hI.wf id o ho, rfl⟩
    · have ha' : id < l.length := ha
      have hob := hI.obs id ha' o (by rw [Nat.zero_add]; exact ho) (mSt m as).objs G0
      simp only [Nat.zero_add] at hob
      exact hob (hg0 id ha').1 ⟨(hg0 id ha').2.1, (hg0 id ha').2.2⟩
    · have hl' : id < l.length := hl.1
      rw [(hg0 id hl').2.1]
      have := hnd.1 id (by simpa using hl')
      rwa [List.getElem_map] at this
    · have hi' : i < l.length := hi.1
      have hj' : j < l.length := hj.1
      rw [(hg0 i hi').2.1, (hg0 j hj').2.1]
      have := hnd.2 i j (by simpa using hi') (by simpa using hj') hne
      rwa [List.getElem_map, List.getElem_map] at this
    · have hl' : id < l.length := hl.1
      rw [(hg0 id hl').2.1] at hb
      have hbF := hmem id hl' b hb
      exact ⟨⟨.inr hbF, fun h => h⟩, hFc b hbF⟩
    · have hl' : id < l.length := hl.1
      rw [(hg0 id hl').2.2] at hb
      rw [(hg0 id hl').2.1]
      exact hI.hds _ (List.getElem_mem hl') b hb
    · by_cases e : k = 0
      · subst e
        have : some (AV.pin (impV ⟨[], [], 0⟩ m).1) = some x := by rw [← hk]; rfl
        injection this with this
        subst this
        have hv : ((v :: vs).toArray ++ Array.replicate (fn.ntmps - (v :: vs).toArray.size) undef).getD 0 undef = v := by
          rw [Array.getD_eq_getD_getElem?, Array.getElem?_append_left (by simp)]
          simp
        show AV.rep _ G0 w _ (Array.getD _ 0 undef)
        simp only [hv, AV.rep]
        exact ⟨hI.rep _ G0 (fun k hk => by simp only [Nat.zero_add]; exact ⟨hk, (hg0 k hk).1⟩), rfl⟩
      · have hk' : get (initEnv 1 as) k = some x := by
          have : get (mSt m as).env k = get (initEnv 1 as) k := get_cons_other _ _ _ _ e
          rw [← this]; exact hk
        obtain ⟨j, z, h1, h2, h3⟩ := initEnv_get hk'
        obtain ⟨u, Fu, h4, h5⟩ := hget hvs h2
        have hj : j < vs.length := (List.getElem?_eq_some_iff.1 h4).1
        have hv : ((v :: vs).toArray ++ Array.replicate (fn.ntmps - (v :: vs).toArray.size) undef).getD k undef = u := by
          rw [Array.getD_eq_getD_getElem?, Array.getElem?_append_left (by simp; omega)]
          rw [h1, Nat.add_comm]
          simp [h4]
        show AV.rep _ G0 w _ (Array.getD _ k undef)
        simp only [hv]
        subst h3
        obtain ⟨t, rfl, ht⟩ := has z (List.mem_of_getElem? h2)
        have hF0 := scal_none ht h5
        subst hF0
        cases t <;> simp [isScal] at ht <;> (simp only [initAV, ancC, AV.rep]; first | exact ⟨[], h5, fun _ _ b hb => by simp at hb⟩ | exact ⟨[], h5, fun _ _ b hb => by simp at hb, fun b hb => by simp at hb⟩)
    · by_cases e : k = 0
      · omega
      · have hk' : get (initEnv 1 as) k = some x := by
          have : get (mSt m as).env k = get (initEnv 1 as) k := get_cons_other _ _ _ _ e
          rw [← this]; exact hk
        obtain ⟨j, z, h1, h2, _⟩ := initEnv_get hk'
        have := (List.getElem?_eq_some_iff.1 h2).1
        omega
  refine calls_of_wp hf hb (wp_mono (ev_sound hE (draw_sound hE hm fn.ntmps _) (draw_soundD hE hm fn.ntmps _) c h hR) ?_)
  rintro e a' w' ⟨ex, σ', G', rfl, hk, hR'⟩
  have fin : retM E fn.results.toList m' y .ret σ' → a'.defers = [] ∧ ∃ u, (results fn a'.tmps).run P w' = .ok u w' ∧
      ∃ u' F', Ending.returned u = .returned u' ∧ y.rep w' u' [] ∧ m'.mrep w' v F' ∧ F'.Nodup ∧ (∀ b ∈ F', (b ∈ F ∨ w.heap.size ≤ b) ∧ ∃ arr e, w'.heap[b]? = some (.cells arr e (0, 0))) ∧ BelowM F w w' := by
    intro hk
    unfold retM at hk
    obtain ⟨avs, us, h1, h2, h3⟩ := resAV_sound hE hR' hk
    split at h1
    case h_2 => exact h1.elim
    rename_i x
    obtain ⟨rfl, h1⟩ := h1
    have h' := need_some h1; clear h1
    obtain ⟨a0, e0, h1⟩ := h'
    split at h1
    case h_2 => exact h1.elim
    rename_i av
    have h' := need_some h1; clear h1
    obtain ⟨⟨mq, ids⟩, eq, rfl, h1⟩ := h'
    have hids : ids.Nodup := nodupB_iff (by rcases scase_out h1 with ⟨h, _⟩ | ⟨_, h⟩ <;> first | exact h | exact h.elim)
    have h0 := hR'.env 0 _ e0
    simp only [AV.rep] at h0
    obtain ⟨h01, h02⟩ := h0
    have hpin : a'.tmps.getD 0 undef = v := by rw [h02, hR'.mem.fix.2]
    rw [hpin] at h01
    obtain ⟨hmr', hlv⟩ := mAV_rep hR'.mem eq h01
    simp only [repAVs, AV.rep] at h2
    obtain ⟨u, us', rfl, ⟨Fx, h4, _⟩, rfl⟩ := h2
    have hFx := scal_none hy h4
    subst hFx
    obtain ⟨u', h9, h10⟩ := run_results h3
    have h9' : u' = u := h9
    subst h9'
    refine ⟨hR'.defers, u', h10, u', _, rfl, h4, hmr', flatΦ_nodup hR'.mem hids hlv, fun b hb => ?_, hR'.mem.below⟩
    obtain ⟨i, hi, hbi⟩ := mem_flatΦ hb
    obtain ⟨⟨h11, _⟩, h12⟩ := hR'.mem.lo i (hlv i hi) b hbi
    exact ⟨h11.symm, h12⟩
  cases ex with
  | normal => exact fin hk
  | ret => exact fin hk
  | exit id => exact hk.elim
end
end Go.Vm

namespace Go.Vm
open Go.RowKit

/-! ### Fewer objects; another pin -/
theorem Mem.less {O O' : List (Nat × Ob)} {G : Gh} {w : World} {w0 : Base} (hM : Mem w0 O G w) (hO : ∀ id o, G.A id → get O' id = some o → get O id = some o) : Mem w0 O' G w ∧ Pres O G w O' G w := by
  have hlv : ∀ id, Lv O' G id → Lv O G id := fun id hl => ⟨hl.1, by obtain ⟨o, ho⟩ := hl.2; exact ⟨o, hO id o hl.1 ho⟩⟩
  have hp : Pres O G w O' G w := ⟨fun _ h => ⟨h, rfl⟩, fun id hl b hb => .inl ⟨id, hlv id hl, hb⟩, fun _ _ _ => rfl, Nat.le_refl _, rfl, rfl⟩
  exact ⟨⟨hM.below, hM.base, hM.fix, fun id o ha ho => Ob.rep_pres hp rfl rfl rfl (hM.hds id (hlv id ⟨ha, o, ho⟩)) (fun _ _ => rfl) o (hM.obs id o ha (hO id o ha ho)),
    fun id hl => hM.nodup id (hlv id hl), fun i j hi hj => hM.disj i j (hlv i hi) (hlv j hj), fun id hl => hM.lo id (hlv id hl), fun id hl => hM.hds id (hlv id hl)⟩, hp⟩

section
variable {O : List (Nat × Ob)} {G : Gh} {w : World} {w0 : Base} {p : Value}

theorem C.rep_pin : ∀ (x : C) (v : Value), x.rep O G w v → x.rep O { G with pin := p } w v
  | .nil, _, h => h
  | .nil0, _, h => h
  | .anc _, _, h => h
  | .t _, _, h => h
  | .ref _, _, h => h
  | .fn _ _, _, h => h
  | .view _ _ _ _, _, h => h
theorem repCs_pin : ∀ (x : List C) (v : List Value), repCs O G w x v → repCs O { G with pin := p } w x v
  | [], _, h => h
  | x :: xs, _, ⟨v, vs', h1, h2, h3⟩ => ⟨v, vs', h1, x.rep_pin v h2, repCs_pin xs vs' h3⟩
theorem repCss_pin : ∀ (x : List (List C)) (v : List (List Value)), repCss O G w x v → repCss O { G with pin := p } w x v
  | [], _, h => h
  | x :: xs, _, ⟨v, vs', h1, h2, h3⟩ => ⟨v, vs', h1, repCs_pin x v h2, repCss_pin xs vs' h3⟩

/-- A slot that says nothing of the pin. -/
def noPin : AV → Bool
  | .pin _ | .frm .. | .tup _ => false
  | _ => true
theorem AV.rep_pin {x : AV} {v : Value} (hs : noPin x = true) (h : x.rep O G w v) : x.rep O { G with pin := p } w v := by
  cases x with
  | c x => simp only [AV.rep] at h ⊢; exact x.rep_pin v h
  | agg xs => simp only [AV.rep] at h ⊢; obtain ⟨vs, h1, h2⟩ := h; exact ⟨vs, h1, repCs_pin xs vs h2⟩
  | ptr id off => simp only [AV.rep] at h ⊢; exact h
  | iptr id sz i off => simp only [AV.rep] at h ⊢; exact h
  | sptr cells off => simp only [AV.rep] at h ⊢; exact h
  | junk => simp only [AV.rep] at h ⊢; exact h
  | nilq rows => simp only [AV.rep] at h ⊢; exact h
  | any => simp only [AV.rep]
  | pin x => cases hs
  | frm ks vs => cases hs
  | tup xs => cases hs
theorem Ob.rep_pin {id : Nat} : ∀ (o : Ob), o.rep O G w id → o.rep O { G with pin := p } w id
  | .box cs, ⟨g, vs, e, h1, h2, h3, h4, h5⟩ => ⟨g, vs, e, h1, h2, repCs_pin cs vs h3, h4, h5⟩
  | .row .., h => h
  | .tmp _ rows, ⟨css, h1, h2⟩ => ⟨css, repCss_pin rows css h1, h2⟩
  | .vw _, h => h
theorem Mem.rep_pin (hM : Mem w0 O G w) : Mem { w0 with pin := p } O { G with pin := p } w :=
  ⟨hM.below, hM.base, ⟨hM.fix.1, rfl⟩, fun id o ha ho => o.rep_pin (hM.obs id o ha ho), hM.nodup, hM.disj, hM.lo, hM.hds⟩
end

/-! ### Walked in place -/
def avEnv : Nat → List AV → List (Nat × AV)
  | _, [] => []
  | n, x :: r => (n, x) :: avEnv (n + 1) r
def zipE : List Nat → List AV → List (Nat × AV)
  | k :: ks, v :: vs => (k, v) :: zipE ks vs
  | _, _ => []
def keysE : List (Nat × AV) → List Nat
  | [] => []
  | (k, _) :: r => k :: keysE r
def valsE : List (Nat × AV) → List AV
  | [] => []
  | (_, v) :: r => v :: valsE r
def jEnv (nt : Nat) (avs : List AV) (env : List (Nat × AV)) : List (Nat × AV) := (nt, .frm (keysE (filtD noPin [] env)) (valsE (filtD noPin [] env))) :: avEnv 0 avs
def jRes : List AV → AV
  | [x] => x
  | xs => .tup xs
/-- What the end of a body that is walked in place owes: the caller goes on. -/
def retJ (E : Nat → Option TI) (nt : Nat) (res : List ResultVar) (K : AV → St → Prop) : Ex → St → Prop
  | .exit _, _ => False
  | _, σ => resAV E σ res fun vs => need (get σ.env nt) fun
    | .frm ks us => scase (vs.all noPin) (K (jRes vs) ⟨filtD noPin [] (zipE ks us), σ.objs, σ.next⟩) False
    | _ => False

theorem avEnv_get : ∀ {args : List AV} {n k : Nat} {v : AV}, get (avEnv n args) k = some v → ∃ j, k = n + j ∧ args[j]? = some v
  | [], n, k, v, h => by cases h
  | x :: r, n, k, v, h => by
    have : get (avEnv n (x :: r)) k = bif Nat.beq n k then some x else get (avEnv (n + 1) r) k := rfl
    rw [this] at h
    cases hb : Nat.beq n k with
    | true =>
      have e := Nat.eq_of_beq_eq_true hb
      simp only [hb, cond_true, Option.some.injEq] at h
      exact ⟨0, by omega, by simp [h]⟩
    | false =>
      simp only [hb, cond_false] at h
      obtain ⟨j, h1, h2⟩ := avEnv_get h
      exact ⟨j + 1, by omega, by simpa using h2⟩
theorem repAVs_at {O : List (Nat × Ob)} {G : Gh} {w : World} : ∀ {as : List AV} {us : List Value} {j : Nat} {x : AV}, repAVs O G w as us → as[j]? = some x → ∃ u, us[j]? = some u ∧ x.rep O G w u
  | [], us, j, x, _, hj => by simp at hj
  | y :: ys, us, j, x, h, hj => by
    simp only [repAVs] at h
    obtain ⟨v, vs', h1, h2, h3⟩ := h
    subst h1
    cases j with
    | zero => simp at hj; subst hj; exact ⟨v, by simp, h2⟩
    | succ j => obtain ⟨u, h4, h5⟩ := repAVs_at h3 (by simpa using hj); exact ⟨u, by simpa using h4, h5⟩
theorem repAVs_len {O : List (Nat × Ob)} {G : Gh} {w : World} : ∀ {as : List AV} {us : List Value}, repAVs O G w as us → us.length = as.length
  | [], us, h => by simp only [repAVs] at h; simp [h]
  | y :: ys, us, h => by
    simp only [repAVs] at h
    obtain ⟨v, vs', h1, h2, h3⟩ := h
    subst h1
    simp [repAVs_len h3]
theorem frm_in {O : List (Nat × Ob)} {G : Gh} {w : World} {tv : Array Value} : ∀ {l : List (Nat × AV)}, (∀ p ∈ l, p.2.rep O G w (tv.getD p.1 undef)) → repAVs O G w (valsE l) ((keysE l).map fun k => tv.getD k undef)
  | [], _ => by simp only [valsE, keysE, List.map_nil, repAVs]
  | (k, v) :: r, h => by
    simp only [valsE, keysE, List.map_cons, repAVs]
    exact ⟨_, _, rfl, h (k, v) (by simp), frm_in (fun p hp => h p (by simp [hp]))⟩
theorem frm_out {O : List (Nat × Ob)} {G : Gh} {w : World} {tv : Array Value} : ∀ {ks : List Nat} {us : List AV} {k : Nat} {v : AV}, repAVs O G w us (ks.map fun k => tv.getD k undef) → get (zipE ks us) k = some v → k ∈ ks ∧ v.rep O G w (tv.getD k undef)
  | [], us, k, v, _, h => by cases us <;> cases h
  | q :: ks, [], k, v, _, h => by cases h
  | q :: ks, u :: us, k, v, hr, h => by
    simp only [List.map_cons, repAVs] at hr
    obtain ⟨v', vs', h1, h2, h3⟩ := hr
    injection h1 with h1 h1'
    subst h1 h1'
    have : get (zipE (q :: ks) (u :: us)) k = bif Nat.beq q k then some u else get (zipE ks us) k := rfl
    rw [this] at h
    cases hb : Nat.beq q k with
    | true =>
      have e := Nat.eq_of_beq_eq_true hb
      subst e
      simp only [hb, cond_true, Option.some.injEq] at h
      subst h
      exact ⟨by simp, h2⟩
    | false =>
      simp only [hb, cond_false] at h
      obtain ⟨h4, h5⟩ := frm_out h3 h
      exact ⟨by simp [h4], h5⟩
theorem mem_filtD {α : Type} {p : α → Bool} : ∀ {dead : List Nat} {l : List (Nat × α)} {q : Nat × α}, q ∈ filtD p dead l → get l q.1 = some q.2 ∧ p q.2 = true ∧ q.1 ∉ dead
  | dead, [], q, h => by cases h
  | dead, (k, u) :: r, q, h => by
    cases hq : notIn k dead with
    | false =>
      simp only [filtD, hq, cond_false] at h
      obtain ⟨h1, h2, h3⟩ := mem_filtD h
      have hne : k ≠ q.1 := fun e => by rw [← e] at h3; rw [notIn_of h3] at hq; cases hq
      exact ⟨by rw [get_cons_other _ _ _ _ (Ne.symm hne)]; exact h1, h2, h3⟩
    | true =>
      cases hp : p u with
      | true =>
        simp only [filtD, hq, hp, cond_true] at h
        rcases List.mem_cons.1 h with rfl | h
        · exact ⟨get_cons_same _ _ _, hp, notIn_iff hq⟩
        · obtain ⟨h1, h2, h3⟩ := mem_filtD h
          simp only [List.mem_cons, not_or] at h3
          exact ⟨by rw [get_cons_other _ _ _ _ h3.1]; exact h1, h2, h3.2⟩
      | false =>
        simp only [filtD, hq, hp, cond_true, cond_false] at h
        obtain ⟨h1, h2, h3⟩ := mem_filtD h
        simp only [List.mem_cons, not_or] at h3
        exact ⟨by rw [get_cons_other _ _ _ _ h3.1]; exact h1, h2, h3.2⟩

section
variable {P : Program} {E : Nat → Option TI}

/-- A CALL THAT IS WALKED IN PLACE. -/
theorem jat_of (hE : TOk P E) (hm : P.follows .mixedOrders = true) {f : FuncId} {fn : Func} {c : Code} (hf : P.funcs[f]? = some fn) (hb : fn.body = some c) (hn : (fn.name == "runtime.NumGoroutine") = false) {avs : List AV} {σ : St} {K : AV → St → Prop}
    (hlen : Nat.ble avs.length fn.ntmps = true) (hav : avs.all noPin = true) (h : ev P E fn.ntmps c (retJ E fn.ntmps fn.results.toList K) ⟨jEnv fn.ntmps avs σ.env, σ.objs, σ.next⟩) : JAt P f avs σ K := by
  refine ⟨⟨fn, c, hf, hb, hn⟩, fun w0 G w vs tv R hM hwf hrep hfr henv hR => ?_⟩
  have hlen' := Nat.le_of_ble_eq_true hlen
  have hvl := repAVs_len hrep
  have hsz : (vs.toArray ++ Array.replicate (fn.ntmps - vs.toArray.size) undef).size = fn.ntmps := by simp; omega
  have hR0 : Rel { w0 with pin := .tuple tv } ⟨jEnv fn.ntmps avs σ.env, σ.objs, σ.next⟩ { G with pin := .tuple tv } fn.ntmps { tmps := vs.toArray ++ Array.replicate (fn.ntmps - vs.toArray.size) undef, defers := [] } w := by
    refine ⟨hM.rep_pin, fun k x hk => ?_, fun k x hk => ?_, hsz, hfr, hwf, rfl⟩
    · by_cases e : k = fn.ntmps
      · subst e
        have e2 : get (jEnv fn.ntmps avs σ.env) fn.ntmps = some (.frm (keysE (filtD noPin [] σ.env)) (valsE (filtD noPin [] σ.env))) := get_cons_same _ _ _
        have hk2 : get (jEnv fn.ntmps avs σ.env) fn.ntmps = some x := hk
        rw [e2] at hk2
        injection hk2 with hk2
        subst hk2
        simp only [AV.rep]
        refine ⟨tv, rfl, frm_in (fun p hp => ?_), fun k hk => ?_⟩
        · obtain ⟨h1, h2, _⟩ := mem_filtD hp
          exact AV.rep_pin h2 (henv _ _ h1).2
        · have : ∀ {l : List (Nat × AV)}, k ∈ keysE l → ∃ v, (k, v) ∈ l := by
            intro l
            induction l with
            | nil => intro h; cases h
            | cons p r ih =>
              intro h
              obtain ⟨q, u⟩ := p
              simp only [keysE, List.mem_cons] at h
              rcases h with rfl | h
              · exact ⟨u, by simp⟩
              · obtain ⟨v, hv⟩ := ih h; exact ⟨v, by simp [hv]⟩
          obtain ⟨v, hv⟩ := this hk
          obtain ⟨h1, h2, _⟩ := mem_filtD hv
          exact (henv _ _ h1).1.resolve_right (by cases v <;> simp_all [noPin, isFrm])
      · have hk' : get (avEnv 0 avs) k = some x := by rw [← hk]; exact (get_cons_other _ _ _ _ e).symm
        obtain ⟨j, h1, h2⟩ := avEnv_get hk'
        obtain ⟨u, h3, h4⟩ := repAVs_at hrep h2
        have hj : j < vs.length := (List.getElem?_eq_some_iff.1 h3).1
        have hv : (vs.toArray ++ Array.replicate (fn.ntmps - vs.toArray.size) undef).getD k undef = u := by
          rw [Array.getD_eq_getD_getElem?, Array.getElem?_append_left (by simp; omega)]
          rw [h1, Nat.zero_add]
          simp [h3]
        simp only [hv]
        exact AV.rep_pin (List.all_eq_true.1 hav _ (List.mem_of_getElem? h2)) h4
    · by_cases e : k = fn.ntmps
      · subst e
        have e2 : get (jEnv fn.ntmps avs σ.env) fn.ntmps = some (.frm (keysE (filtD noPin [] σ.env)) (valsE (filtD noPin [] σ.env))) := get_cons_same _ _ _
        have hk2 : get (jEnv fn.ntmps avs σ.env) fn.ntmps = some x := hk
        rw [e2] at hk2
        injection hk2 with hk2
        subst hk2
        exact .inr rfl
      · have hk' : get (avEnv 0 avs) k = some x := by rw [← hk]; exact (get_cons_other _ _ _ _ e).symm
        obtain ⟨j, h1, h2⟩ := avEnv_get hk'
        have := (List.getElem?_eq_some_iff.1 h2).1
        exact .inl (by omega)
  refine calls_of_wp hf hb (wp_mono (ev_sound hE (draw_sound hE hm fn.ntmps _) (draw_soundD hE hm fn.ntmps _) c h hR0) ?_)
  rintro e a' w' ⟨ex, σ', G', rfl, hk, hR'⟩
  have fin : retJ E fn.ntmps fn.results.toList K .ret σ' → a'.defers = [] ∧ ∃ v, (results fn a'.tmps).run P w' = .ok v w' ∧ R (.returned v) w' := by
    intro hk
    unfold retJ at hk
    obtain ⟨avs', us, h1, h2, h3⟩ := resAV_sound hE hR' hk
    have h' := need_some h1; clear h1
    obtain ⟨vf, ef, h1⟩ := h'
    split at h1
    case h_2 => exact h1.elim
    rename_i ks vv
    rcases scase_out h1 with ⟨hnp, h1⟩ | ⟨_, h1⟩
    case inr => exact h1.elim
    obtain ⟨v, h9, h10⟩ := run_results h3
    have hfv := hR'.env _ _ ef
    simp only [AV.rep] at hfv
    obtain ⟨tv', e1, h4, h5⟩ := hfv
    rw [hR'.mem.fix.2] at e1
    injection e1 with e1
    subst e1
    have hM' : Mem w0 σ'.objs { G' with pin := w0.pin } w' := (hR'.mem.rep_pin (p := w0.pin))
    refine ⟨hR'.defers, v, h10, hR (jRes avs') ⟨filtD noPin [] (zipE ks vv), σ'.objs, σ'.next⟩ { G' with pin := w0.pin } v w' h1 hR'.wf hM' (fun k u hu => ?_) ?_ hR'.fresh⟩
    · obtain ⟨_, h6, h7⟩ := get_filtD hu
      obtain ⟨h8, h11⟩ := frm_out h4 h6
      exact ⟨h5 k h8, AV.rep_pin h7 h11⟩
    · cases avs' with
      | nil =>
        simp only [repAVs] at h2
        subst h2
        have h9' : v = .tuple (List.toArray []) := h9
        simp only [jRes, AV.rep]
        exact ⟨[], h9', by simp only [repAVs]⟩
      | cons x xs =>
        have hall : ∀ {xs : List AV} {us : List Value}, xs.all noPin = true → repAVs σ'.objs G' w' xs us → repAVs σ'.objs { G' with pin := w0.pin } w' xs us := by
          intro xs
          induction xs with
          | nil => intro us _ h; simpa only [repAVs] using h
          | cons y ys ih =>
            intro us hy h
            simp only [repAVs] at h ⊢
            obtain ⟨v, vs', q1, q2, q3⟩ := h
            simp only [List.all_cons, Bool.and_eq_true] at hy
            exact ⟨v, vs', q1, AV.rep_pin hy.1 q2, ih hy.2 q3⟩
        cases xs with
        | nil =>
          simp only [repAVs] at h2
          obtain ⟨u, us', e2, q2, q3⟩ := h2
          subst q3
          subst e2
          have h9' : v = u := h9
          subst h9'
          simp only [List.all_cons, List.all_nil, Bool.and_true] at hnp
          exact AV.rep_pin hnp q2
        | cons y ys =>
          have h9' : v = .tuple us.toArray := by
            simp only [repAVs] at h2
            obtain ⟨u, us', e2, _, u2, us2, e3, _⟩ := h2
            subst e2 e3
            exact h9
          simp only [jRes, AV.rep]
          exact ⟨us, h9', hall hnp h2⟩
  cases ex with
  | normal => exact fin hk
  | ret => exact fin hk
  | exit id => exact hk.elim
end
end Go.Vm

namespace Go.Vm
open Go.RowKit

def argAV : V → AV
  | .one x => .c (.t x)
  | .agg xs => .agg (xs.map .t)
def argEnv : Nat → List V → List (Nat × AV)
  | _, [] => []
  | n, x :: r => (n, argAV x) :: argEnv (n + 1) r
def cSt (cs : List T) (as : List V) : St := ⟨(0, .pin (.ptr 0 0)) :: argEnv 1 as, [(0, .box (cs.map ancC))], 1⟩

def boxOut : List C → List T → Prop
  | [], [] => True
  | .anc x :: r, y :: s => x = y ∧ boxOut r s
  | .t x :: r, y :: s => (x = y ∧ isScal x = true) ∧ boxOut r s
  | _, _ => False
/-- What the end of a body owes: results in new memory, and what the box shows. -/
def retC (E : Nat → Option TI) (res : List ResultVar) (cs' : List T) (rs : List RV) : Ex → St → Prop
  | .exit _, _ => False
  | _, σ => resAV E σ res fun vs => outVs σ.objs vs rs fun ids => need (get σ.env 0) fun
    | .pin (.ptr id 0) => scase (nodupB ids && notIn id ids) (need (get σ.objs id) fun
      | .box ds => boxOut ds cs'
      | _ => False) False
    | _ => False

theorem boxOut_sound {O : List (Nat × Ob)} {G : Gh} {w : World} : ∀ {ds : List C} {cs : List T} {us : List Value}, boxOut ds cs → repCs O G w ds us → ∃ F, repCells w cs us F ∧ ∀ b ∈ F, G.b b
  | [], [], us, _, h => ⟨[], by simp only [repCells]; exact ⟨h, trivial⟩, by simp⟩
  | .anc x :: r, y :: s, _, ⟨h1, h2⟩, ⟨v, vs', e1, ⟨F, h3, _, h4⟩, h5⟩ => by
    subst h1 e1
    obtain ⟨F2, h6, h7⟩ := boxOut_sound h2 h5
    exact ⟨F ++ F2, by simp only [repCells]; exact ⟨_, _, F, F2, rfl, rfl, h3, h6⟩, fun b hb => (List.mem_append.1 hb).elim (h4 b) (h7 b)⟩
  | .t x :: r, y :: s, _, ⟨⟨h1, hs⟩, h2⟩, ⟨v, vs', e1, ⟨F, h3, _⟩, h5⟩ => by
    subst h1 e1
    obtain ⟨F2, h6, h7⟩ := boxOut_sound h2 h5
    have := scal_none hs h3
    subst this
    exact ⟨F2, by simp only [repCells]; exact ⟨_, _, [], F2, rfl, rfl, h3, h6⟩, h7⟩
  | [], _ :: _, _, h, _ => h.elim
  | .nil :: _, _, _, h, _ => by cases ‹List T› <;> exact h.elim
  | .nil0 :: _, _, _, h, _ => by cases ‹List T› <;> exact h.elim
  | .ref _ :: _, _, _, h, _ => by cases ‹List T› <;> exact h.elim
  | .fn _ _ :: _, _, _, h, _ => by cases ‹List T› <;> exact h.elim
  | .view _ _ _ _ :: _, _, _, h, _ => by cases ‹List T› <;> exact h.elim
  | .anc _ :: _, [], _, h, _ => h.elim
  | .t _ :: _, [], _, h, _ => h.elim

theorem argEnv_get : ∀ {args : List V} {n k : Nat} {v : AV}, get (argEnv n args) k = some v → ∃ j x, k = n + j ∧ args[j]? = some x ∧ v = argAV x
  | [], n, k, v, h => by cases h
  | x :: r, n, k, v, h => by
    have : get (argEnv n (x :: r)) k = bif Nat.beq n k then some (argAV x) else get (argEnv (n + 1) r) k := rfl
    rw [this] at h
    cases hb : Nat.beq n k with
    | true =>
      have e := Nat.eq_of_beq_eq_true hb
      simp only [hb, cond_true, Option.some.injEq] at h
      exact ⟨0, x, by omega, rfl, h.symm⟩
    | false =>
      simp only [hb, cond_false] at h
      obtain ⟨j, y, h1, h2, h3⟩ := argEnv_get h
      exact ⟨j + 1, y, by omega, by simpa using h2, h3⟩
theorem repVsG_get {w : World} {g : Nat} : ∀ {as : List V} {us : List Value} {j : Nat} {x : V}, repVsG w g as us → as[j]? = some x → ∃ u F, us[j]? = some u ∧ x.rep w u F ∧ g ∉ F
  | [], us, j, x, _, hj => by simp at hj
  | y :: ys, us, j, x, h, hj => by
    obtain ⟨v, vs', F, h1, h2, h3⟩ := h
    subst h1
    cases j with
    | zero => simp at hj; subst hj; exact ⟨v, F, by simp, h2⟩
    | succ j => obtain ⟨u, F', h4, h5⟩ := repVsG_get h3 (by simpa using hj); exact ⟨u, F', by simpa using h4, h5⟩
theorem repVsG_len {w : World} {g : Nat} : ∀ {as : List V} {us : List Value}, repVsG w g as us → us.length = as.length
  | [], us, h => by rw [show us = [] from h]; rfl
  | y :: ys, us, ⟨v, vs', F, h1, h2, h3⟩ => by subst h1; simp [repVsG_len h3]
section
variable {P : Program} {E : Nat → Option TI}

theorem cur_of_ev (hE : TOk P E) (hm : P.follows .mixedOrders = true) {f : FuncId} {fn : Func} {c : Code} (hf : P.funcs[f]? = some fn) (hb : fn.body = some c) (hn : (fn.name == "runtime.NumGoroutine") = false) {cs cs' : List T} {as : List V} {rs : List RV}
    (hlen : Nat.ble (as.length + 1) fn.ntmps = true) (h : ev P E fn.ntmps c (retC E fn.results.toList cs' rs) (cSt cs as)) : CurAt P f cs cs' as rs := by
  refine ⟨⟨fn, c, hf, hb, hn⟩, fun w g us e F vs hheap hcs hgF hvs => ?_⟩
  have hlen' := Nat.le_of_ble_eq_true hlen
  have hvl := repVsG_len hvs
  have hg : g < w.heap.size := (Array.getElem?_eq_some_iff.1 hheap).1
  let G0 : Gh := ⟨fun j => j = 0, fun _ => .pointer (some ⟨g, 0, none⟩), fun _ => [g], fun _ => [g], fun b => b ∈ F, .pointer (some ⟨g, 0, none⟩)⟩
  have himm : ∀ {F'}, g ∉ F' → ∀ O, Imm O G0 F' := fun {F'} hn O id hl b hb hbd => by
    have : b = g := by simpa [G0] using hbd
    exact hn (this ▸ hb)
  have hsz : ((.pointer (some ⟨g, 0, none⟩) :: vs).toArray ++ Array.replicate (fn.ntmps - (.pointer (some ⟨g, 0, none⟩) :: vs).toArray.size) undef).size = fn.ntmps := by
    simp
    omega
  have hR : Rel ⟨w, [g], fun b => b ∈ F, .pointer (some ⟨g, 0, none⟩)⟩ (cSt cs as) G0 fn.ntmps { tmps := (.pointer (some ⟨g, 0, none⟩) :: vs).toArray ++ Array.replicate (fn.ntmps - (.pointer (some ⟨g, 0, none⟩) :: vs).toArray.size) undef, defers := [] } w := by
    refine ⟨⟨⟨rfl, rfl, rfl, Nat.le_refl _, fun _ _ _ => rfl⟩, fun b hb => repCells_lt cs us F hcs b hb, ⟨rfl, rfl⟩, fun id o ha ho => ?_, fun id hl => by simp [G0], fun i j hi hj hne => absurd (hi.1.trans hj.1.symm) hne, fun id hl b hb => ?_, fun id hl b hb => hb⟩, fun k x hk => ?_, fun k x hk => ?_, hsz, fun j hj => by rw [show j = 0 from hj]; exact Nat.zero_lt_one, fun id o ho => ?_, rfl⟩
    · have ha' : id = 0 := ha
      subst ha'
      have e1 : some (Ob.box (cs.map ancC)) = some o := ho
      injection e1 with e1
      subst e1
      exact ⟨g, us, e, rfl, hheap, ancCs_rep hcs (himm hgF _) (fun b hb => hb), rfl, rfl⟩
    · have : b = g := by simpa [G0] using hb
      subst this
      exact ⟨⟨.inr (by simp), hgF⟩, _, _, hheap⟩
    · by_cases e0 : k = 0
      · subst e0
        have e1 : some (AV.pin (.ptr 0 0)) = some x := hk
        injection e1 with e1
        subst e1
        have hv : ((.pointer (some ⟨g, 0, none⟩) :: vs).toArray ++ Array.replicate (fn.ntmps - (.pointer (some ⟨g, 0, none⟩) :: vs).toArray.size) undef).getD 0 undef = .pointer (some ⟨g, 0, none⟩) := by
          rw [Array.getD_eq_getD_getElem?, Array.getElem?_append_left (by simp)]
          simp
        show AV.rep _ G0 w _ (Array.getD _ 0 undef)
        simp only [hv, AV.rep]
        exact ⟨⟨rfl, ⟨g, 0, none⟩, rfl, rfl⟩, rfl⟩
      · have hk' : get (argEnv 1 as) k = some x := by
          have : get (cSt cs as).env k = get (argEnv 1 as) k := get_cons_other _ _ _ _ e0
          rw [← this]; exact hk
        obtain ⟨j, z, h1, h2, h3⟩ := argEnv_get hk'
        obtain ⟨u, Fu, h4, h5, h6⟩ := repVsG_get hvs h2
        have hj : j < vs.length := (List.getElem?_eq_some_iff.1 h4).1
        have hv : ((.pointer (some ⟨g, 0, none⟩) :: vs).toArray ++ Array.replicate (fn.ntmps - (.pointer (some ⟨g, 0, none⟩) :: vs).toArray.size) undef).getD k undef = u := by
          rw [Array.getD_eq_getD_getElem?, Array.getElem?_append_left (by simp; omega)]
          rw [h1, Nat.add_comm]
          simp [h4]
        show AV.rep _ G0 w _ (Array.getD _ k undef)
        simp only [hv]
        subst h3
        cases z with
        | one z => simp only [argAV, AV.rep]; exact ⟨Fu, h5, himm h6 _⟩
        | agg zs =>
          obtain ⟨us', h7, h8⟩ := h5
          simp only [argAV, AV.rep]
          exact ⟨us', h7, tCs_rep h8 (himm h6 _)⟩
    · by_cases e0 : k = 0
      · exact .inl (by omega)
      · have hk' : get (argEnv 1 as) k = some x := by
          have : get (cSt cs as).env k = get (argEnv 1 as) k := get_cons_other _ _ _ _ e0
          rw [← this]; exact hk
        obtain ⟨j, z, h1, h2, _⟩ := argEnv_get hk'
        have := (List.getElem?_eq_some_iff.1 h2).1
        exact .inl (by omega)
    · have e1 : get [(0, Ob.box (cs.map ancC))] id = some o := ho
      by_cases e0 : id = 0
      · subst e0; exact Nat.zero_lt_one
      · rw [get_cons_other _ _ _ _ e0] at e1; cases e1
  refine calls_of_wp hf hb (wp_mono (ev_sound hE (draw_sound hE hm fn.ntmps _) (draw_soundD hE hm fn.ntmps _) c h hR) ?_)
  rintro ex0 a' w' ⟨ex, σ', G', rfl, hk, hR'⟩
  have fin : retC E fn.results.toList cs' rs .ret σ' → a'.defers = [] ∧ ∃ v, (results fn a'.tmps).run P w' = .ok v w' ∧
      ∃ out F' us' Fc v', Ending.returned v = .returned v' ∧ retOf out v' ∧ repRVs w' rs out F' ∧ F'.Nodup ∧
        (∀ b ∈ F', w.heap.size ≤ b ∧ ∃ arr e, w'.heap[b]? = some (.cells arr e (0, 0))) ∧ (∃ e', w'.heap[g]? = some (.cells us'.toArray e' (0, 0))) ∧ repCells w' cs' us' Fc ∧ (∀ b ∈ Fc, b ∈ F) ∧ BelowM [g] w w' := by
    intro hk
    unfold retC at hk
    obtain ⟨avs, out, h1, h2, h3⟩ := resAV_sound hE hR' hk
    obtain ⟨ids, F', h4, h5, h6, h7, h8⟩ := outVs_sound hR'.mem h1 h2
    have h' := need_some h4; clear h4
    obtain ⟨a0, e0, h4⟩ := h'
    split at h4
    case h_2 => exact h4.elim
    rename_i id
    rcases scase_out h4 with ⟨hnd, h4⟩ | ⟨_, h4⟩
    case inr => exact h4.elim
    have h' := need_some h4; clear h4
    obtain ⟨ob, eo, h4⟩ := h'
    split at h4
    case h_2 => exact h4.elim
    rename_i ds
    simp only [Bool.and_eq_true] at hnd
    have hpin := hR'.env 0 _ e0
    simp only [AV.rep] at hpin
    obtain ⟨⟨hA, ad, hφ, hv0⟩, hp⟩ := hpin
    rw [hR'.mem.fix.2] at hp
    rw [hp] at hv0
    obtain ⟨g', us', e', b1, b2, b3, b4, b5⟩ := hR'.mem.obs id _ hA eo
    have hgg : g' = g := by
      rw [hφ] at b1
      injection b1 with b1
      injection b1 with b1
      subst b1
      have : (⟨g', 0, none⟩ : Addr).add 0 = ⟨g', 0, none⟩ := by unfold Addr.add; simp
      rw [this] at hv0
      injection hv0 with hv0
      injection hv0 with hv0
      injection hv0 with hv0
      exact hv0.symm
    subst hgg
    obtain ⟨Fc, b6, b7⟩ := boxOut_sound h4 b3
    obtain ⟨v, h9, h10⟩ := run_results h3
    have hlv : Lv σ'.objs G' id := ⟨hA, _, eo⟩
    refine ⟨hR'.defers, v, h10, out, F', us', Fc, v, rfl, h9, h5, h7 (nodupB_iff hnd.1), fun b hb => ?_, ⟨e', b2⟩, b6, fun b hb => ?_, hR'.mem.below⟩
    · obtain ⟨i, hi, hbi⟩ := h8 b hb
      obtain ⟨⟨h11, _⟩, h12⟩ := hR'.mem.lo i (h6 i hi) b hbi
      refine ⟨?_, h12⟩
      rcases h11 with h11 | h11
      · exact h11
      · have hbg : b = g' := by simpa using h11
        subst hbg
        have hne : id ≠ i := fun e => notIn_iff hnd.2 (e ▸ hi)
        exact absurd hbi (hR'.mem.disj id i hlv (h6 i hi) hne b (by rw [b4]; simp))
    · have := b7 b hb
      rw [hR'.mem.fix.1] at this
      exact this
  cases ex with
  | normal => exact fin hk
  | ret => exact fin hk
  | exit id => exact hk.elim

/-- A CALL WITH A POINTER TO A BOX. -/
theorem inAt_cur {f : FuncId} {cs cs' : List T} {as : List V} {rs : List RV} {avs : List AV} {σ : St} {K : AV → St → Prop} {id : Nat} {ds : List C} (hc : CurAt P f cs cs' as rs) (hg : get σ.objs id = some (.box ds)) (hds : cellsT ds = some cs)
    (has : mapO (argW σ.objs) avs = some as) (hk : K (impR ⟨σ.env, Vm.put σ.objs id (.box (cs'.map ancC)), σ.next⟩ rs).1 ⟨σ.env, (impR ⟨σ.env, Vm.put σ.objs id (.box (cs'.map ancC)), σ.next⟩ rs).2.objs, (impR ⟨σ.env, Vm.put σ.objs id (.box (cs'.map ancC)), σ.next⟩ rs).2.next⟩) :
    InAt P f (.ptr id 0 :: avs) σ K := by
  obtain ⟨hent, hc⟩ := hc
  refine ⟨hent, fun w0 G w vs R hM hwf hrep hfr hR => ?_⟩
  simp only [repAVs, AV.rep] at hrep
  obtain ⟨v, vs', rfl, ⟨hA, ad, hφ, hv⟩, hrest⟩ := hrep
  have hlv : Lv σ.objs G id := ⟨hA, _, hg⟩
  obtain ⟨g, us, e, b1, b2, b3, b4, b5⟩ := hM.obs id _ hA hg
  have had : v = .pointer (some ⟨g, 0, none⟩) := by
    rw [hφ] at b1
    injection b1 with b1
    injection b1 with b1
    subst b1
    rw [hv]
    have : (⟨g, 0, none⟩ : Addr).add 0 = ⟨g, 0, none⟩ := by unfold Addr.add; simp
    rw [this]
  subst had
  obtain ⟨F, hF, himm, hold0⟩ := cellsT_rep hds b3
  have hgh : g ∈ G.h id := by rw [b5]; simp
  have hgF : g ∉ F := fun hb => himm id hlv g hb hgh
  have hFlt := repCells_lt cs us F hF
  refine (hc w g us e F vs' b2 hF hgF (argWs_sound hM hA hg hgh has hrest)).mono fun ex w' hpost => ?_
  obtain ⟨out, F', us', Fc, v, rfl, hret, hout, hnd0, hfresh, ⟨e', hheap'⟩, hcs', hFc, hbel⟩ := hpost
  have hwf1 : St.wf ⟨σ.env, Vm.put σ.objs id (.box (cs'.map ancC)), σ.next⟩ := wf_put hwf (hwf id _ hg)
  obtain ⟨l, imp⟩ := impR_sound hwf1 hout hret
  have hlt : ∀ j, σ.next ≤ j → j < σ.next + l.length → ¬ G.A j := fun j h1 _ h3 => by have := hfr j h3; omega
  have hgs : g < w.heap.size := (Array.getElem?_eq_some_iff.1 b2).1
  have hnl : ∀ j, G.A j → get (impR ⟨σ.env, Vm.put σ.objs id (.box (cs'.map ancC)), σ.next⟩ rs).2.objs j = get (Vm.put σ.objs id (.box (cs'.map ancC))) j := fun j hj => imp.ext.objs j (hfr j hj)
  obtain ⟨hM', hp'⟩ := cur_step (O' := (impR ⟨σ.env, Vm.put σ.objs id (.box (cs'.map ancC)), σ.next⟩ rs).2.objs) hM hA hg b1 b2 b4 b5 hF himm hold0 hnd0 hfresh hheap' hcs' hFc hbel imp hlt (by rw [hnl id hA, get_put_same])
    (fun j hj hne => by rw [hnl j hj, get_put_other _ _ _ _ hne]) (fun k _ => rfl)
  refine hR _ _ _ _ v w' hk imp.wf hM' hp' (imp.rep _ _ fun k hk => ?_) (fun j hj => ?_)
  · have hn := Gh.addL_new (G := G) (n := σ.next) hk
    exact ⟨.inr ⟨by show σ.next ≤ σ.next + k; omega, by show σ.next + k < σ.next + l.length; omega⟩, hn.1⟩
  · show j < (impR ⟨σ.env, Vm.put σ.objs id (.box (cs'.map ancC)), σ.next⟩ rs).2.next
    rw [imp.next]
    rcases hj with hj | hj
    · have := hfr j hj
      show j < σ.next + l.length
      omega
    · exact hj.2

/-! ### A function that returns a pointer to a new box -/
/-- Arguments whose memory lies in 'F'. -/
def repVsIn (w : World) (F : List Nat) : List V → List Value → Prop
  | [], vs => vs = []
  | x :: xs, vs => ∃ v vs' F1, vs = v :: vs' ∧ (x.rep w v F1 ∧ ∀ b ∈ F1, b ∈ F) ∧ repVsIn w F xs vs'
def NewAt (P : Program) (f : FuncId) (as : List V) (cs : List T) : Prop :=
  Enter P f ∧ ∀ (w : World) (F : List Nat) (vs : List Value), repVsIn w F as vs →
    Calls P f vs.toArray w fun ex w' => ∃ g us e Fc, ex = .returned (.pointer (some ⟨g, 0, none⟩)) ∧ w.heap.size ≤ g ∧ w'.heap[g]? = some (.cells (List.toArray us) e (0, 0)) ∧ repCells w' cs us Fc ∧ (∀ b ∈ Fc, b ∈ F) ∧ Below w.heap.size w w'
def retN (E : Nat → Option TI) (res : List ResultVar) (cs : List T) : Ex → St → Prop
  | .exit _, _ => False
  | _, σ => resAV E σ res fun vs => match vs with
    | [.ptr id 0] => need (get σ.objs id) fun
      | .box ds => boxOut ds cs
      | _ => False
    | _ => False
theorem repVsIn_get {w : World} {F : List Nat} : ∀ {as : List V} {us : List Value} {j : Nat} {x : V}, repVsIn w F as us → as[j]? = some x → ∃ u F1, us[j]? = some u ∧ x.rep w u F1 ∧ ∀ b ∈ F1, b ∈ F
  | [], us, j, x, _, hj => by simp at hj
  | y :: ys, us, j, x, h, hj => by
    obtain ⟨v, vs', F1, h1, h2, h3⟩ := h
    subst h1
    cases j with
    | zero => simp at hj; subst hj; exact ⟨v, F1, by simp, h2⟩
    | succ j => obtain ⟨u, F', h4, h5⟩ := repVsIn_get h3 (by simpa using hj); exact ⟨u, F', by simpa using h4, h5⟩
theorem repVsIn_len {w : World} {F : List Nat} : ∀ {as : List V} {us : List Value}, repVsIn w F as us → us.length = as.length
  | [], us, h => by rw [show us = [] from h]; rfl
  | y :: ys, us, ⟨v, vs', F1, h1, h2, h3⟩ => by subst h1; simp [repVsIn_len h3]

theorem new_of_ev (hE : TOk P E) (hm : P.follows .mixedOrders = true) {f : FuncId} {fn : Func} {c : Code} (hf : P.funcs[f]? = some fn) (hb : fn.body = some c) (hn : (fn.name == "runtime.NumGoroutine") = false) {cs : List T} {as : List V}
    (hlen : Nat.ble as.length fn.ntmps = true) (h : ev P E fn.ntmps c (retN E fn.results.toList cs) ⟨initEnv 0 as, [], 0⟩) : NewAt P f as cs := by
  refine ⟨⟨fn, c, hf, hb, hn⟩, fun w F0 vs hvs => ?_⟩
  have hlen' := Nat.le_of_ble_eq_true hlen
  have hvl := repVsIn_len hvs
  let G0 : Gh := ⟨fun _ => False, fun _ => undef, fun _ => [], fun _ => [], fun b => b ∈ F0 ∧ b < w.heap.size, undef⟩
  have himm : ∀ F, Imm [] G0 F := fun F id hl => hl.1.elim
  have hsz : (vs.toArray ++ Array.replicate (fn.ntmps - vs.toArray.size) undef).size = fn.ntmps := by simp; omega
  have hR : Rel ⟨w, [], fun b => b ∈ F0 ∧ b < w.heap.size, undef⟩ ⟨initEnv 0 as, [], 0⟩ G0 fn.ntmps { tmps := vs.toArray ++ Array.replicate (fn.ntmps - vs.toArray.size) undef, defers := [] } w := by
    refine ⟨⟨⟨rfl, rfl, rfl, Nat.le_refl _, fun _ _ _ => rfl⟩, fun _ h => h.2, ⟨rfl, rfl⟩, fun id o ha => ha.elim, fun id hl => hl.1.elim, fun i j hi => hi.1.elim, fun id hl => hl.1.elim, fun id hl => hl.1.elim⟩, fun k v hk => ?_, fun k v hk => ?_, hsz, fun j hj => hj.elim, fun id o ho => (by cases ho), rfl⟩
    · obtain ⟨j, x, h1, h2, h3⟩ := initEnv_get hk
      have hkj : k = j := by omega
      subst hkj
      obtain ⟨u, F, h4, h5, h6⟩ := repVsIn_get hvs h2
      have hk' : k < vs.length := (List.getElem?_eq_some_iff.1 h4).1
      have hv : (vs.toArray ++ Array.replicate (fn.ntmps - vs.toArray.size) undef).getD k undef = u := by
        rw [Array.getD_eq_getD_getElem?, Array.getElem?_append_left (by simpa using hk')]
        simp [h4]
      simp only [hv]
      subst h3
      have hlt := V.rep_lt x u F h5
      have hold : ∀ b ∈ F, G0.b b := fun b hb => ⟨h6 b hb, hlt b hb⟩
      cases x with
      | one x => simp only [initAV, AV.rep]; exact ancC_rep h5 (himm F) hold
      | agg xs =>
        obtain ⟨us, h6, h7⟩ := h5
        simp only [initAV, AV.rep]
        exact ⟨us, h6, ancCs_rep h7 (himm F) hold⟩
    · obtain ⟨j, x, h1, h2, _⟩ := initEnv_get hk
      have := (List.getElem?_eq_some_iff.1 h2).1
      exact .inl (by omega)
  refine calls_of_wp hf hb (wp_mono (ev_sound hE (draw_sound hE hm fn.ntmps _) (draw_soundD hE hm fn.ntmps _) c h hR) ?_)
  rintro ex0 a' w' ⟨ex, σ', G', rfl, hk, hR'⟩
  have fin : retN E fn.results.toList cs .ret σ' → a'.defers = [] ∧ ∃ v, (results fn a'.tmps).run P w' = .ok v w' ∧
      ∃ g us e Fc, Ending.returned v = .returned (.pointer (some ⟨g, 0, none⟩)) ∧ w.heap.size ≤ g ∧ w'.heap[g]? = some (.cells (List.toArray us) e (0, 0)) ∧ repCells w' cs us Fc ∧ (∀ b ∈ Fc, b ∈ F0) ∧ Below w.heap.size w w' := by
    intro hk
    unfold retN at hk
    obtain ⟨avs, out, h1, h2, h3⟩ := resAV_sound hE hR' hk
    split at h1
    case h_2 => exact h1.elim
    rename_i id
    have h' := need_some h1; clear h1
    obtain ⟨ob, eo, h1⟩ := h'
    split at h1
    case h_2 => exact h1.elim
    rename_i ds
    simp only [repAVs, AV.rep] at h2
    obtain ⟨u, us', rfl, ⟨hA, ad, hφ, hv⟩, rfl⟩ := h2
    obtain ⟨g, us, e, b1, b2, b3, b4, b5⟩ := hR'.mem.obs id _ hA eo
    obtain ⟨Fc, b6, b7⟩ := boxOut_sound h1 b3
    obtain ⟨v, h9, h10⟩ := run_results h3
    have hvu : v = u := h9
    subst hvu
    have hvg : v = .pointer (some ⟨g, 0, none⟩) := by
      rw [hφ] at b1
      injection b1 with b1
      injection b1 with b1
      subst b1
      rw [hv]
      have : (⟨g, 0, none⟩ : Addr).add 0 = ⟨g, 0, none⟩ := by unfold Addr.add; simp
      rw [this]
    obtain ⟨⟨h11, _⟩, _⟩ := hR'.mem.lo id ⟨hA, _, eo⟩ g (by rw [b4]; simp)
    refine ⟨hR'.defers, v, h10, g, us, e, Fc, by rw [hvg], by simpa using h11, b2, b6, fun b hb => ?_, ⟨hR'.mem.below.os, hR'.mem.below.tape, hR'.mem.below.output, hR'.mem.below.size, fun b hb => hR'.mem.below.block b hb (by simp)⟩⟩
    have := b7 b hb
    rw [hR'.mem.fix.1] at this
    exact this.1
  cases ex with
  | normal => exact fin hk
  | ret => exact fin hk
  | exit id => exact hk.elim

/-- A CALL THAT GIVES A NEW BOX, of one argument that nobody writes. -/
theorem inAt_new {f : FuncId} {y : T} {cs : List T} {σ : St} {K : AV → St → Prop} (hc : NewAt P f [.one y] cs)
    (hk : K (.ptr σ.next 0) ⟨σ.env, (σ.next, .box (cs.map ancC)) :: σ.objs, σ.next + 1⟩) : InAt P f [.c (.anc y)] σ K := by
  obtain ⟨hent, hc⟩ := hc
  refine ⟨hent, fun w0 G w vs R hM hwf hrep hfr hR => ?_⟩
  simp only [repAVs, AV.rep] at hrep
  obtain ⟨v, vs', rfl, hrx, rfl⟩ := hrep
  obtain ⟨F, hF, himm, hold0⟩ := hrx
  have hFlt := T.rep_lt y v F hF
  refine (hc w F [v] ⟨v, [], F, rfl, ⟨hF, fun b hb => hb⟩, rfl⟩).mono fun ex w' hpost => ?_
  obtain ⟨g, us, e, Fc, rfl, hge, hheap, hcs, hFc, hbel⟩ := hpost
  have hnA : ¬ G.A σ.next := fun h => Nat.lt_irrefl _ (hfr _ h)
  have hne : ∀ j, Lv σ.objs G j → j ≠ σ.next := fun j hj e' => hnA (e' ▸ hj.1)
  let G' : Gh := ⟨fun j => G.A j ∨ j = σ.next, fun j => if j = σ.next then .pointer (some ⟨g, 0, none⟩) else G.φ j, fun j => if j = σ.next then [g] else G.Φ j, fun j => if j = σ.next then [g] else G.h j, G.b, G.pin⟩
  have hnewA : ∀ j, G.A j → j ≠ σ.next := fun j hj e' => hnA (e' ▸ hj)
  obtain ⟨hM', hp⟩ := Mem.step (G' := G') (O' := (σ.next, .box (cs.map ancC)) :: σ.objs) (w' := w') hM (Lv σ.objs G) (fun j => j = σ.next)
    (fun j h => ⟨.inl h, by simp [G', hnewA j h]⟩) ⟨rfl, rfl⟩ (fun j h => ⟨h, get_cons_other _ _ _ _ (hne j h), by simp [G', hne j h]⟩)
    (fun j h => by
      by_cases e' : j = σ.next
      · exact .inr e'
      · obtain ⟨ha, o, ho⟩ := h
        rw [get_cons_other _ _ _ _ e'] at ho
        exact .inl ⟨ha.resolve_right e', o, ho⟩)
    hbel.os hbel.tape hbel.output hbel.size (fun b hb _ => hbel.block b hb) (fun j hx => by subst hx; simp [G']) (fun i j hi hj hn => absurd (hi.trans hj.symm) hn)
    (fun j hx b hb => by
      subst hx
      have : b = g := by simpa [G'] using hb
      subst this
      exact ⟨.inl hge, _, _, hheap⟩)
    (fun j hx b hb => by
      subst hx
      have : b = g := by simpa [G'] using hb
      subst this
      exact ⟨by simp [G'], .inl hge⟩)
    (fun j o hx _ hg p => by
      subst hx
      rw [get_cons_same] at hg
      injection hg with hg
      subst hg
      exact ⟨g, us, e, by simp [G'], hheap, ancCs_rep hcs ((himm.sub hFc).pres (fun b hb => hFlt b (hFc b hb)) p) (fun b hb => hold0 b (hFc b hb)), by simp [G'], by simp [G']⟩)
  refine hR _ _ _ G' _ w' hk (fun j o ho => ?_) hM' hp ?_ (fun j hj => ?_)
  · by_cases e' : j = σ.next
    · subst e'; exact Nat.lt_succ_self _
    · have := hwf j o (by rw [← ho]; exact (get_cons_other _ _ _ _ e').symm)
      exact Nat.lt_succ_of_lt this
  · simp only [AV.rep]
    have : (⟨g, 0, none⟩ : Addr).add 0 = ⟨g, 0, none⟩ := by unfold Addr.add; simp
    exact ⟨.inr rfl, ⟨g, 0, none⟩, by simp [G'], by rw [this]⟩
  · rcases hj with hj | hj
    · exact Nat.lt_succ_of_lt (hfr j hj)
    · subst hj; exact Nat.lt_succ_self _
end
end Go.Vm

namespace Go.Vm
open Go.RowKit

/-- THE CONTRACT, but that of the results a property alone is known. -/
def FnE (P : Program) (f : FuncId) (args : List V) (X : Type) (rs : X → List RV) (Q : X → Prop) : Prop :=
  Enter P f ∧ ∀ (w : World) (vs : List Value), repVs w args vs →
    Calls P f vs.toArray w fun e w' => ∃ x, Q x ∧ ∃ us F v, e = .returned v ∧ retOf us v ∧ repRVs w' (rs x) us F ∧ F.Nodup ∧
      (∀ b ∈ F, w.heap.size ≤ b ∧ ∃ arr e, w'.heap[b]? = some (.cells arr e (0, 0))) ∧ Below w.heap.size w w'
def CurE (P : Program) (f : FuncId) (cs : List T) (as : List V) (X : Type) (cs' : X → List T) (rs : X → List RV) (Q : X → Prop) : Prop :=
  Enter P f ∧ ∀ (w : World) (g : Nat) (us : List Value) (e : TypeId) (F : List Nat) (vs : List Value), w.heap[g]? = some (.cells us.toArray e (0, 0)) → repCells w cs us F → g ∉ F → repVsG w g as vs →
    Calls P f (.pointer (some ⟨g, 0, none⟩) :: vs).toArray w fun ex w' => ∃ x, Q x ∧ ∃ out F' us' Fc v, ex = .returned v ∧ retOf out v ∧ repRVs w' (rs x) out F' ∧ F'.Nodup ∧
      (∀ b ∈ F', w.heap.size ≤ b ∧ ∃ arr e, w'.heap[b]? = some (.cells arr e (0, 0))) ∧ (∃ e', w'.heap[g]? = some (.cells us'.toArray e' (0, 0))) ∧ repCells w' (cs' x) us' Fc ∧ (∀ b ∈ Fc, b ∈ F) ∧ BelowM [g] w w'
def retKE {X : Type} (E : Nat → Option TI) (res : List ResultVar) (rs : X → List RV) (Q : X → Prop) (e : Ex) (σ : St) : Prop := ∃ x, Q x ∧ retK E res (rs x) e σ
def retCE {X : Type} (E : Nat → Option TI) (res : List ResultVar) (cs' : X → List T) (rs : X → List RV) (Q : X → Prop) (e : Ex) (σ : St) : Prop := ∃ x, Q x ∧ retC E res (cs' x) (rs x) e σ
section
variable {P : Program} {E : Nat → Option TI}
/-- A known value is one with every property that it has. -/
theorem fnE_of_fnAt {f : FuncId} {args : List V} {rs : List RV} (h : FnAt P f args rs) : FnE P f args Unit (fun _ => rs) fun _ => True :=
  ⟨h.1, fun w vs hv => (h.2 w vs hv).mono fun _ _ hp => ⟨(), trivial, hp⟩⟩

theorem fnE_of_ev (hE : TOk P E) (hm : P.follows .mixedOrders = true)
    {f : FuncId} {fn : Func} {c : Code} (hf : P.funcs[f]? = some fn) (hb : fn.body = some c) (hn : (fn.name == "runtime.NumGoroutine") = false) {args : List V} {X : Type} {rs : X → List RV} {Q : X → Prop} (hlen : Nat.ble args.length fn.ntmps = true)
    (h : ev P E fn.ntmps c (retKE E fn.results.toList rs Q) ⟨initEnv 0 args, [], 0⟩) : FnE P f args X rs Q := by
  refine ⟨⟨fn, c, hf, hb, hn⟩, fun w vs hvs => ?_⟩
  have hlen' := Nat.le_of_ble_eq_true hlen
  have hvl : ∀ {as : List V} {us : List Value}, repVs w as us → us.length = as.length := by
    intro as
    induction as with
    | nil => intro us h; simp only [repVs] at h; simp [h]
    | cons x xs ih => intro us h; obtain ⟨v, vs', F, h1, _, h3⟩ := h; subst h1; simp [ih h3]
  have hget : ∀ {as : List V} {us : List Value} {j : Nat} {x : V}, repVs w as us → as[j]? = some x → ∃ u F, us[j]? = some u ∧ x.rep w u F := by
    intro as
    induction as with
    | nil => intro us j x _ hj; simp at hj
    | cons y ys ih =>
      intro us j x h hj
      obtain ⟨v, vs', F, h1, h2, h3⟩ := h
      subst h1
      cases j with
      | zero => simp at hj; subst hj; exact ⟨v, F, by simp, h2⟩
      | succ j => obtain ⟨u, F', h4, h5⟩ := ih h3 (by simpa using hj); exact ⟨u, F', by simpa using h4, h5⟩
  let G0 : Gh := ⟨fun _ => False, fun _ => undef, fun _ => [], fun _ => [], fun b => b < w.heap.size, undef⟩
  have himm : ∀ F, Imm [] G0 F := fun F id hl => hl.1.elim
  have hsz : (vs.toArray ++ Array.replicate (fn.ntmps - vs.toArray.size) undef).size = fn.ntmps := by
    have := hvl hvs
    simp
    omega
  have hR : Rel ⟨w, [], fun b => b < w.heap.size, undef⟩ ⟨initEnv 0 args, [], 0⟩ G0 fn.ntmps { tmps := vs.toArray ++ Array.replicate (fn.ntmps - vs.toArray.size) undef, defers := [] } w := by
    refine ⟨⟨⟨rfl, rfl, rfl, Nat.le_refl _, fun _ _ _ => rfl⟩, fun _ h => h, ⟨rfl, rfl⟩, fun id o ha => ha.elim, fun id hl => hl.1.elim, fun i j hi => hi.1.elim, fun id hl => hl.1.elim, fun id hl => hl.1.elim⟩, fun k v hk => ?_, fun k v hk => ?_, hsz, fun j hj => hj.elim, fun id o ho => (by cases ho), rfl⟩
    · obtain ⟨j, x, h1, h2, h3⟩ := initEnv_get hk
      have hkj : k = j := by omega
      subst hkj
      obtain ⟨u, F, h4, h5⟩ := hget hvs h2
      have hk' : k < vs.length := (List.getElem?_eq_some_iff.1 h4).1
      have hv : (vs.toArray ++ Array.replicate (fn.ntmps - vs.toArray.size) undef).getD k undef = u := by
        rw [Array.getD_eq_getD_getElem?, Array.getElem?_append_left (by simpa using hk')]
        simp [h4]
      simp only [hv]
      subst h3
      have hlt := V.rep_lt x u F h5
      cases x with
      | one x => simp only [initAV, AV.rep]; exact ancC_rep h5 (himm F) hlt
      | agg xs =>
        obtain ⟨us, h6, h7⟩ := h5
        simp only [initAV, AV.rep]
        exact ⟨us, h6, ancCs_rep h7 (himm F) hlt⟩
    · obtain ⟨j, x, h1, h2, _⟩ := initEnv_get hk
      have := (List.getElem?_eq_some_iff.1 h2).1
      omega
  refine calls_of_wp hf hb (wp_mono (ev_sound hE (draw_sound hE hm fn.ntmps _) (draw_soundD hE hm fn.ntmps _) c h hR) ?_)
  rintro e a' w' ⟨ex, σ', G', rfl, hk, hR'⟩
  have fin : ∀ x, Q x → (resAV E σ' fn.results.toList fun vs => outVs σ'.objs vs (rs x) fun ids => scase (nodupB ids) True False) → a'.defers = [] ∧ ∃ v, (results fn a'.tmps).run P w' = .ok v w' ∧
      ∃ x, Q x ∧ ∃ us F v', Ending.returned v = .returned v' ∧ retOf us v' ∧ repRVs w' (rs x) us F ∧ F.Nodup ∧ (∀ b ∈ F, w.heap.size ≤ b ∧ ∃ arr e, w'.heap[b]? = some (.cells arr e (0, 0))) ∧ Below w.heap.size w w' := by
    intro x hq hk
    obtain ⟨avs, us, h1, h2, h3⟩ := resAV_sound hE hR' hk
    obtain ⟨ids, F, h4, h5, h6, h7, h8⟩ := outVs_sound hR'.mem h1 h2
    obtain ⟨v, h9, h10⟩ := run_results h3
    exact ⟨hR'.defers, v, h10, x, hq, us, F, v, rfl, h9, h5, h7 (nodupB_iff (by rcases scase_out h4 with ⟨h, _⟩ | ⟨_, h⟩ <;> first | exact h | exact h.elim)), fun b hb => by
      obtain ⟨i, hi, hbi⟩ := h8 b hb
      obtain ⟨⟨h11, _⟩, h12⟩ := hR'.mem.lo i (h6 i hi) b hbi
      exact ⟨by simpa using h11, h12⟩, ⟨hR'.mem.below.os, hR'.mem.below.tape, hR'.mem.below.output, hR'.mem.below.size, fun b hb => hR'.mem.below.block b hb (by simp)⟩⟩
  obtain ⟨x, hq, hk⟩ := hk
  cases ex with
  | normal => exact fin x hq hk
  | ret => exact fin x hq hk
  | exit id => exact hk.elim

theorem curE_of_ev (hE : TOk P E) (hm : P.follows .mixedOrders = true) {f : FuncId} {fn : Func} {c : Code} (hf : P.funcs[f]? = some fn) (hb : fn.body = some c) (hn : (fn.name == "runtime.NumGoroutine") = false) {cs : List T} {as : List V} {X : Type} {cs' : X → List T} {rs : X → List RV} {Q : X → Prop}
    (hlen : Nat.ble (as.length + 1) fn.ntmps = true) (h : ev P E fn.ntmps c (retCE E fn.results.toList cs' rs Q) (cSt cs as)) : CurE P f cs as X cs' rs Q := by
  refine ⟨⟨fn, c, hf, hb, hn⟩, fun w g us e F vs hheap hcs hgF hvs => ?_⟩
  have hlen' := Nat.le_of_ble_eq_true hlen
  have hvl := repVsG_len hvs
  have hg : g < w.heap.size := (Array.getElem?_eq_some_iff.1 hheap).1
  let G0 : Gh := ⟨fun j => j = 0, fun _ => .pointer (some ⟨g, 0, none⟩), fun _ => [g], fun _ => [g], fun b => b ∈ F, .pointer (some ⟨g, 0, none⟩)⟩
  have himm : ∀ {F'}, g ∉ F' → ∀ O, Imm O G0 F' := fun {F'} hn O id hl b hb hbd => by
    have : b = g := by simpa [G0] using hbd
    exact hn (this ▸ hb)
  have hsz : ((.pointer (some ⟨g, 0, none⟩) :: vs).toArray ++ Array.replicate (fn.ntmps - (.pointer (some ⟨g, 0, none⟩) :: vs).toArray.size) undef).size = fn.ntmps := by
    simp
    omega
  have hR : Rel ⟨w, [g], fun b => b ∈ F, .pointer (some ⟨g, 0, none⟩)⟩ (cSt cs as) G0 fn.ntmps { tmps := (.pointer (some ⟨g, 0, none⟩) :: vs).toArray ++ Array.replicate (fn.ntmps - (.pointer (some ⟨g, 0, none⟩) :: vs).toArray.size) undef, defers := [] } w := by
    refine ⟨⟨⟨rfl, rfl, rfl, Nat.le_refl _, fun _ _ _ => rfl⟩, fun b hb => repCells_lt cs us F hcs b hb, ⟨rfl, rfl⟩, fun id o ha ho => ?_, fun id hl => by simp [G0], fun i j hi hj hne => absurd (hi.1.trans hj.1.symm) hne, fun id hl b hb => ?_, fun id hl b hb => hb⟩, fun k x hk => ?_, fun k x hk => ?_, hsz, fun j hj => by rw [show j = 0 from hj]; exact Nat.zero_lt_one, fun id o ho => ?_, rfl⟩
    · have ha' : id = 0 := ha
      subst ha'
      have e1 : some (Ob.box (cs.map ancC)) = some o := ho
      injection e1 with e1
      subst e1
      exact ⟨g, us, e, rfl, hheap, ancCs_rep hcs (himm hgF _) (fun b hb => hb), rfl, rfl⟩
    · have : b = g := by simpa [G0] using hb
      subst this
      exact ⟨⟨.inr (by simp), hgF⟩, _, _, hheap⟩
    · by_cases e0 : k = 0
      · subst e0
        have e1 : some (AV.pin (.ptr 0 0)) = some x := hk
        injection e1 with e1
        subst e1
        have hv : ((.pointer (some ⟨g, 0, none⟩) :: vs).toArray ++ Array.replicate (fn.ntmps - (.pointer (some ⟨g, 0, none⟩) :: vs).toArray.size) undef).getD 0 undef = .pointer (some ⟨g, 0, none⟩) := by
          rw [Array.getD_eq_getD_getElem?, Array.getElem?_append_left (by simp)]
          simp
        show AV.rep _ G0 w _ (Array.getD _ 0 undef)
        simp only [hv, AV.rep]
        exact ⟨⟨rfl, ⟨g, 0, none⟩, rfl, rfl⟩, rfl⟩
      · have hk' : get (argEnv 1 as) k = some x := by
          have : get (cSt cs as).env k = get (argEnv 1 as) k := get_cons_other _ _ _ _ e0
          rw [← this]; exact hk
        obtain ⟨j, z, h1, h2, h3⟩ := argEnv_get hk'
        obtain ⟨u, Fu, h4, h5, h6⟩ := repVsG_get hvs h2
        have hj : j < vs.length := (List.getElem?_eq_some_iff.1 h4).1
        have hv : ((.pointer (some ⟨g, 0, none⟩) :: vs).toArray ++ Array.replicate (fn.ntmps - (.pointer (some ⟨g, 0, none⟩) :: vs).toArray.size) undef).getD k undef = u := by
          rw [Array.getD_eq_getD_getElem?, Array.getElem?_append_left (by simp; omega)]
          rw [h1, Nat.add_comm]
          simp [h4]
        show AV.rep _ G0 w _ (Array.getD _ k undef)
        simp only [hv]
        subst h3
        cases z with
        | one z => simp only [argAV, AV.rep]; exact ⟨Fu, h5, himm h6 _⟩
        | agg zs =>
          obtain ⟨us', h7, h8⟩ := h5
          simp only [argAV, AV.rep]
          exact ⟨us', h7, tCs_rep h8 (himm h6 _)⟩
    · by_cases e0 : k = 0
      · exact .inl (by omega)
      · have hk' : get (argEnv 1 as) k = some x := by
          have : get (cSt cs as).env k = get (argEnv 1 as) k := get_cons_other _ _ _ _ e0
          rw [← this]; exact hk
        obtain ⟨j, z, h1, h2, _⟩ := argEnv_get hk'
        have := (List.getElem?_eq_some_iff.1 h2).1
        exact .inl (by omega)
    · have e1 : get [(0, Ob.box (cs.map ancC))] id = some o := ho
      by_cases e0 : id = 0
      · subst e0; exact Nat.zero_lt_one
      · rw [get_cons_other _ _ _ _ e0] at e1; cases e1
  refine calls_of_wp hf hb (wp_mono (ev_sound hE (draw_sound hE hm fn.ntmps _) (draw_soundD hE hm fn.ntmps _) c h hR) ?_)
  rintro ex0 a' w' ⟨ex, σ', G', rfl, hk, hR'⟩
  have fin : ∀ x, Q x → retC E fn.results.toList (cs' x) (rs x) .ret σ' → a'.defers = [] ∧ ∃ v, (results fn a'.tmps).run P w' = .ok v w' ∧
      ∃ x, Q x ∧ ∃ out F' us' Fc v', Ending.returned v = .returned v' ∧ retOf out v' ∧ repRVs w' (rs x) out F' ∧ F'.Nodup ∧
        (∀ b ∈ F', w.heap.size ≤ b ∧ ∃ arr e, w'.heap[b]? = some (.cells arr e (0, 0))) ∧ (∃ e', w'.heap[g]? = some (.cells us'.toArray e' (0, 0))) ∧ repCells w' (cs' x) us' Fc ∧ (∀ b ∈ Fc, b ∈ F) ∧ BelowM [g] w w' := by
    intro x hq hk
    unfold retC at hk
    obtain ⟨avs, out, h1, h2, h3⟩ := resAV_sound hE hR' hk
    obtain ⟨ids, F', h4, h5, h6, h7, h8⟩ := outVs_sound hR'.mem h1 h2
    have h' := need_some h4; clear h4
    obtain ⟨a0, e0, h4⟩ := h'
    split at h4
    case h_2 => exact h4.elim
    rename_i id
    rcases scase_out h4 with ⟨hnd, h4⟩ | ⟨_, h4⟩
    case inr => exact h4.elim
    have h' := need_some h4; clear h4
    obtain ⟨ob, eo, h4⟩ := h'
    split at h4
    case h_2 => exact h4.elim
    rename_i ds
    simp only [Bool.and_eq_true] at hnd
    have hpin := hR'.env 0 _ e0
    simp only [AV.rep] at hpin
    obtain ⟨⟨hA, ad, hφ, hv0⟩, hp⟩ := hpin
    rw [hR'.mem.fix.2] at hp
    rw [hp] at hv0
    obtain ⟨g', us', e', b1, b2, b3, b4, b5⟩ := hR'.mem.obs id _ hA eo
    have hgg : g' = g := by
      rw [hφ] at b1
      injection b1 with b1
      injection b1 with b1
      subst b1
      have : (⟨g', 0, none⟩ : Addr).add 0 = ⟨g', 0, none⟩ := by unfold Addr.add; simp
      rw [this] at hv0
      injection hv0 with hv0
      injection hv0 with hv0
      injection hv0 with hv0
      exact hv0.symm
    subst hgg
    obtain ⟨Fc, b6, b7⟩ := boxOut_sound h4 b3
    obtain ⟨v, h9, h10⟩ := run_results h3
    have hlv : Lv σ'.objs G' id := ⟨hA, _, eo⟩
    refine ⟨hR'.defers, v, h10, x, hq, out, F', us', Fc, v, rfl, h9, h5, h7 (nodupB_iff hnd.1), fun b hb => ?_, ⟨e', b2⟩, b6, fun b hb => ?_, hR'.mem.below⟩
    · obtain ⟨i, hi, hbi⟩ := h8 b hb
      obtain ⟨⟨h11, _⟩, h12⟩ := hR'.mem.lo i (h6 i hi) b hbi
      refine ⟨?_, h12⟩
      rcases h11 with h11 | h11
      · exact h11
      · have hbg : b = g' := by simpa using h11
        subst hbg
        have hne : id ≠ i := fun e => notIn_iff hnd.2 (e ▸ hi)
        exact absurd hbi (hR'.mem.disj id i hlv (h6 i hi) hne b (by rw [b4]; simp))
    · have := b7 b hb
      rw [hR'.mem.fix.1] at this
      exact this
  obtain ⟨x, hq, hk⟩ := hk
  cases ex with
  | normal => exact fin x hq hk
  | ret => exact fin x hq hk
  | exit id => exact hk.elim


/-- A CALL WITH A POINTER TO A BOX. -/
theorem inAt_curE {f : FuncId} {cs : List T} {as : List V} {X : Type} {cs' : X → List T} {rs : X → List RV} {Q : X → Prop} {avs : List AV} {σ : St} {K : AV → St → Prop} {id : Nat} {ds : List C} (hc : CurE P f cs as X cs' rs Q) (hg : get σ.objs id = some (.box ds)) (hds : cellsT ds = some cs)
    (has : mapO (argW σ.objs) avs = some as) (hk : ∀ x, Q x → K (impR ⟨σ.env, Vm.put σ.objs id (.box ((cs' x).map ancC)), σ.next⟩ (rs x)).1 ⟨σ.env, (impR ⟨σ.env, Vm.put σ.objs id (.box ((cs' x).map ancC)), σ.next⟩ (rs x)).2.objs, (impR ⟨σ.env, Vm.put σ.objs id (.box ((cs' x).map ancC)), σ.next⟩ (rs x)).2.next⟩) :
    InAt P f (.ptr id 0 :: avs) σ K := by
  obtain ⟨hent, hc⟩ := hc
  refine ⟨hent, fun w0 G w vs R hM hwf hrep hfr hR => ?_⟩
  simp only [repAVs, AV.rep] at hrep
  obtain ⟨v, vs', rfl, ⟨hA, ad, hφ, hv⟩, hrest⟩ := hrep
  have hlv : Lv σ.objs G id := ⟨hA, _, hg⟩
  obtain ⟨g, us, e, b1, b2, b3, b4, b5⟩ := hM.obs id _ hA hg
  have had : v = .pointer (some ⟨g, 0, none⟩) := by
    rw [hφ] at b1
    injection b1 with b1
    injection b1 with b1
    subst b1
    rw [hv]
    have : (⟨g, 0, none⟩ : Addr).add 0 = ⟨g, 0, none⟩ := by unfold Addr.add; simp
    rw [this]
  subst had
  obtain ⟨F, hF, himm, hold0⟩ := cellsT_rep hds b3
  have hgh : g ∈ G.h id := by rw [b5]; simp
  have hgF : g ∉ F := fun hb => himm id hlv g hb hgh
  have hFlt := repCells_lt cs us F hF
  refine (hc w g us e F vs' b2 hF hgF (argWs_sound hM hA hg hgh has hrest)).mono fun ex w' hpost => ?_
  obtain ⟨x, hq, out, F', us', Fc, v, rfl, hret, hout, hnd0, hfresh, ⟨e', hheap'⟩, hcs', hFc, hbel⟩ := hpost
  have hwf1 : St.wf ⟨σ.env, Vm.put σ.objs id (.box ((cs' x).map ancC)), σ.next⟩ := wf_put hwf (hwf id _ hg)
  obtain ⟨l, imp⟩ := impR_sound hwf1 hout hret
  have hlt : ∀ j, σ.next ≤ j → j < σ.next + l.length → ¬ G.A j := fun j h1 _ h3 => by have := hfr j h3; omega
  have hgs : g < w.heap.size := (Array.getElem?_eq_some_iff.1 b2).1
  have hnl : ∀ j, G.A j → get (impR ⟨σ.env, Vm.put σ.objs id (.box ((cs' x).map ancC)), σ.next⟩ (rs x)).2.objs j = get (Vm.put σ.objs id (.box ((cs' x).map ancC))) j := fun j hj => imp.ext.objs j (hfr j hj)
  obtain ⟨hM', hp'⟩ := cur_step (O' := (impR ⟨σ.env, Vm.put σ.objs id (.box ((cs' x).map ancC)), σ.next⟩ (rs x)).2.objs) hM hA hg b1 b2 b4 b5 hF himm hold0 hnd0 hfresh hheap' hcs' hFc hbel imp hlt (by rw [hnl id hA, get_put_same])
    (fun j hj hne => by rw [hnl j hj, get_put_other _ _ _ _ hne]) (fun k _ => rfl)
  refine hR _ _ _ _ v w' (hk x hq) imp.wf hM' hp' (imp.rep _ _ fun k hk => ?_) (fun j hj => ?_)
  · have hn := Gh.addL_new (G := G) (n := σ.next) hk
    exact ⟨.inr ⟨by show σ.next ≤ σ.next + k; omega, by show σ.next + k < σ.next + l.length; omega⟩, hn.1⟩
  · show j < (impR ⟨σ.env, Vm.put σ.objs id (.box ((cs' x).map ancC)), σ.next⟩ (rs x)).2.next
    rw [imp.next]
    rcases hj with hj | hj
    · have := hfr j hj
      show j < σ.next + l.length
      omega
    · exact hj.2


/-- A CALL OF A FUNCTION OF VALUES. -/
theorem inAt_fnE {f : FuncId} {as : List V} {X : Type} {rs : X → List RV} {Q : X → Prop} {avs : List AV} {σ : St} {K : AV → St → Prop} (hc : FnE P f as X rs Q)
    (has : mapO (argV σ.objs) avs = some as) (hk : ∀ x, Q x → K (impR σ (rs x)).1 ⟨σ.env, (impR σ (rs x)).2.objs, (impR σ (rs x)).2.next⟩) : InAt P f avs σ K := by
  obtain ⟨hent, hfn⟩ := hc
  refine ⟨hent, fun w0 G w vs R hm hwf hrep hfr hR => ?_⟩
  refine (hfn w vs (argVs_sound hm has hrep)).mono fun e w' hpost => ?_
  obtain ⟨x, hq, us, F, v, rfl, hret, hus, hnd, hfresh, hb⟩ := hpost
  obtain ⟨l, imp⟩ := impR_sound hwf hus hret
  have hext := imp.ext
  have hnl : ∀ j, G.A j → get (impR σ (rs x)).2.objs j = get σ.objs j := fun j hj => hext.objs j (hfr j hj)
  have hp : Pres σ.objs G w (impR σ (rs x)).2.objs G w := ⟨fun id h => ⟨h, rfl⟩, fun id hl b hb => .inl ⟨id, ⟨hl.1, by obtain ⟨ob, hob⟩ := hl.2; exact ⟨ob, by rw [← hnl id hl.1]; exact hob⟩⟩, hb⟩, fun _ _ _ => rfl, Nat.le_refl _, rfl, rfl⟩
  have hlv : ∀ id, Lv (impR σ (rs x)).2.objs G id → Lv σ.objs G id := fun id hl => ⟨hl.1, by obtain ⟨ob, hob⟩ := hl.2; exact ⟨ob, by rw [← hnl id hl.1]; exact hob⟩⟩
  have hM : Mem w0 (impR σ (rs x)).2.objs G w :=
    ⟨hm.below, hm.base, hm.fix, fun id ob ha ho => Ob.rep_pres hp rfl rfl rfl (hm.hds id (hlv id ⟨ha, ob, ho⟩)) (fun _ _ => rfl) ob (hm.obs id ob ha (by rw [← hnl id ha]; exact ho)),
      fun id hl => hm.nodup id (hlv id hl), fun i j hi hj => hm.disj i j (hlv i hi) (hlv j hj), fun id hl => hm.lo id (hlv id hl), fun id hl => hm.hds id (hlv id hl)⟩
  have hlt : ∀ j, σ.next ≤ j → j < σ.next + l.length → ¬ G.A j := fun j h1 _ h3 => by have := hfr j h3; omega
  obtain ⟨hM', hp'⟩ := hM.newL σ.next l hlt hb (by rw [imp.flat]; exact hnd) (fun p hp b hbp => hfresh b (by rw [← imp.flat]; exact List.mem_flatten.2 ⟨p.2, List.mem_map.2 ⟨p, hp, rfl⟩, hbp⟩)) imp.hds
    (fun k o hk ho p => by
      have hn := Gh.addL_new (G := G) (n := σ.next) hk
      exact imp.obs k hk o ho _ _ hn.1 hn.2)
  refine hR _ _ _ _ v w' (hk x hq) imp.wf hM' (hp.trans hp') (imp.rep _ _ fun k hk => ?_) (fun j hj => ?_)
  · have hn := Gh.addL_new (G := G) (n := σ.next) hk
    exact ⟨.inr ⟨by omega, by omega⟩, hn.1⟩
  · show j < (impR σ (rs x)).2.next
    rw [imp.next]
    rcases hj with hj | hj
    · have := hfr j hj
      omega
    · omega

end
end Go.Vm
