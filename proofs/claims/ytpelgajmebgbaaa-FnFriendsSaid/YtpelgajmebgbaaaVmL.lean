/-
  Soundness of the operations that write.
  Conditions: the table of types fits the program ('TOk').
-/
import Derived.Test.YtpelgajmebgbaaaVmK
namespace Go.Vm
open Go.RowKit

theorem flat_length {css : List (List Value)} {sz : Nat} (hs : ∀ cs ∈ css, cs.length = sz) : css.flatten.length = css.length * sz := by
  induction css with
  | nil => simp
  | cons c cs ih => simp only [List.flatten_cons, List.length_append, List.length_cons, Nat.add_mul, Nat.one_mul]; rw [ih (fun x hx => hs x (by simp [hx])), hs c (by simp)]; omega

theorem flat_set {sz : Nat} : ∀ {css : List (List Value)} {i off : Nat} {vs us : List Value}, (∀ cs ∈ css, cs.length = sz) → css[i]? = some vs → off + us.length ≤ sz →
    (css.set i (vs.take off ++ us ++ vs.drop (off + us.length))).flatten = css.flatten.take (i * sz + off) ++ us ++ css.flatten.drop (i * sz + off + us.length)
  | [], i, off, vs, us, _, hi, _ => by simp at hi
  | c :: cs, i, off, vs, us, hs, hi, hl => by
    have hc : c.length = sz := hs c (by simp)
    cases i with
    | zero =>
      simp at hi
      subst hi
      simp only [List.set_cons_zero, List.flatten_cons, Nat.zero_mul, Nat.zero_add]
      rw [List.take_append_of_le_length (by omega), List.drop_append_of_le_length (by omega)]
      simp
    | succ i =>
      have ih := flat_set (off := off) (us := us) (fun x hx => hs x (by simp [hx])) (by simpa using hi : cs[i]? = some vs) hl
      simp only [List.set_cons_succ, List.flatten_cons, ih]
      have e1 : (i + 1) * sz + off = c.length + (i * sz + off) := by rw [hc, Nat.add_mul]; omega
      have t1 : ∀ (f : List Value) (k : Nat), (c ++ f).take (c.length + k) = c ++ f.take k := fun f k => by
        rw [List.take_append, Nat.add_sub_cancel_left, List.take_of_length_le (Nat.le_add_right _ _)]
      have t2 : ∀ (f : List Value) (k : Nat), (c ++ f).drop (c.length + k) = f.drop k := fun f k => by
        rw [List.drop_append, Nat.add_sub_cancel_left, List.drop_of_length_le (Nat.le_add_right _ _), List.nil_append]
      rw [e1, Nat.add_assoc c.length, t1, t2]
      simp

theorem grid_flat {w : World} {ad : Addr} {sz : Nat} {css : List (List Value)} (hs : ∀ cs ∈ css, cs.length = sz)
    (hg : ∀ (i : Nat) cs, css[i]? = some cs → ∀ (j : Nat) u, cs[j]? = some u → w.cell? (ad.add (i * sz + j)) = some u) : ∀ (k : Nat) u, css.flatten[k]? = some u → w.cell? (ad.add k) = some u := by
  intro k u hu
  have hk := (List.getElem?_eq_some_iff.1 hu).1
  rw [flat_length hs] at hk
  have hsz : 0 < sz := by
    rcases Nat.eq_zero_or_pos sz with h | h
    · subst h; simp at hk
    · exact h
  have hi : k / sz < css.length := by rw [Nat.div_lt_iff_lt_mul hsz]; exact hk
  have hci : css[k / sz]? = some css[k / sz] := List.getElem?_eq_getElem hi
  have hlen := hs _ (List.getElem_mem hi)
  have hj : k % sz < css[k / sz].length := by rw [hlen]; exact Nat.mod_lt _ hsz
  have e : k / sz * sz + k % sz = k := by rw [Nat.mul_comm]; exact Nat.div_add_mod k sz
  have h1 := flat_get hs _ _ hci _ _ (List.getElem?_eq_getElem hj)
  rw [e, hu] at h1
  injection h1 with h1
  have h2 := hg _ _ hci _ _ (List.getElem?_eq_getElem hj)
  rw [e, ← h1] at h2
  exact h2

theorem nodup_swap {a b c b' : List Nat} (h : (a ++ b ++ c).Nodup) (hb : b'.Nodup) (h1 : ∀ x ∈ a ++ c, x ∉ b') : (a ++ b' ++ c).Nodup := by
  rw [List.append_assoc, List.nodup_append] at h
  obtain ⟨ha, hbc, hd1⟩ := h
  obtain ⟨_, hc, _⟩ := List.nodup_append.1 hbc
  rw [List.append_assoc, List.nodup_append]
  refine ⟨ha, List.nodup_append.2 ⟨hb, hc, fun x hx y hy e => ?_⟩, fun x hx y hy e => ?_⟩
  · subst e; exact h1 x (by simp [hy]) hx
  · subst e
    rcases List.mem_append.1 hy with hy | hy
    · exact h1 x (by simp [hx]) hy
    · exact hd1 x hx x (by simp [hy]) rfl

theorem get3 {α : Type} (a u b : List α) (q : Nat) : (a ++ u ++ b)[q]? = if q < a.length then a[q]? else if q < a.length + u.length then u[q - a.length]? else b[q - a.length - u.length]? := by
  by_cases h : q < a.length
  · rw [if_pos h, List.append_assoc, List.getElem?_append_left h]
  · rw [if_neg h, List.append_assoc, List.getElem?_append_right (by omega)]
    by_cases h' : q < a.length + u.length
    · rw [if_pos h', List.getElem?_append_left (by omega)]
    · rw [if_neg h', List.getElem?_append_right (by omega)]

/-- A cell of a row written, of which only the cells are known. -/
theorem weak_store {w : World} {v : Value} {N sz i off n c : Nat} {ad : Addr} {css : List (List Value)} {vs us : List Value} (hW : RowWeak w v N sz css) (hs : ∀ cs ∈ css, cs.length = sz) (hv : v = .slice (some ad) n c)
    (hi : css[i]? = some vs) (hl : off + us.length ≤ sz) (hpos : 0 < us.length) (hN : css.length = N) :
    ∃ g cur el k, w.heap[g]? = some (.cells cur el (0, 0)) ∧ hd v = [g] ∧ Value.pointer (some (ad.add (i * sz + off))) = .pointer (some ⟨g, k, none⟩) ∧ k + us.length ≤ cur.size ∧
      RowWeak (w.setRow g (cur.toList.take k ++ us ++ cur.toList.drop (k + us.length)).toArray) v N sz (css.set i (vs.take off ++ us ++ vs.drop (off + us.length))) := by
  have hlt : i < css.length := (List.getElem?_eq_some_iff.1 hi).1
  obtain ⟨A, c', hv', hnc, hcells⟩ := hW
  obtain ⟨ad', rfl, ⟨cur, el, hg⟩, hcell⟩ := hcells (by omega)
  rw [hv] at hv'
  injection hv' with e1 e2 e3
  injection e1 with e1
  subst e1 e2 e3
  have hgrid := grid_flat hs hcell
  have hvs : vs.length = sz := hs vs (List.mem_of_getElem? hi)
  have hfl := flat_length hs
  have hbnd : i * sz + off + us.length ≤ css.length * sz := by
    have : (i + 1) * sz ≤ css.length * sz := Nat.mul_le_mul_right _ hlt
    rw [Nat.add_mul, Nat.one_mul] at this
    omega
  have hat : ∀ q, q < css.length * sz → ad.add q = ⟨ad.block, ad.off + q, none⟩ ∧ cur[ad.off + q]? = css.flatten[q]? := by
    intro q hq
    have hq' : css.flatten[q]? = some css.flatten[q] := List.getElem?_eq_getElem (by rw [hfl]; exact hq)
    have h1 := hgrid q _ hq'
    have hb : (ad.add q).block = ad.block := block_of_add ad q
    have ho : (ad.add q).off = ad.off + q := by unfold Addr.add; split <;> simp_all
    unfold World.cell? at h1
    rw [hb, hg] at h1
    simp only at h1
    split at h1
    · cases h1
    · rename_i hsp
      have hsp' : (ad.add q).spot = none := by simpa using hsp
      refine ⟨?_, by rw [hq', ← h1, ho]⟩
      cases hA : ad.add q with
      | mk b o s => rw [hA] at hb ho hsp'; simp at hb ho hsp'; simp [hb, ho, hsp']
  have hk0 := (hat (i * sz + off) (by omega)).1
  have hsz : ad.off + (i * sz + off) + us.length ≤ cur.size := by
    have h1 := (hat (i * sz + off + (us.length - 1)) (by omega)).2
    rw [List.getElem?_eq_getElem (by rw [hfl]; omega)] at h1
    have := (Array.getElem?_eq_some_iff.1 h1).1
    omega
  refine ⟨ad.block, cur, el, ad.off + (i * sz + off), hg, ?_, by rw [hk0], hsz, some ad, c, hv, hnc, fun _ => ⟨ad, rfl, ⟨_, el, setRow_heap w _ cur _ el _ hg⟩, ?_⟩⟩
  · rw [hv]
    cases c with
    | zero => omega
    | succ c => rfl
  · have hcss' : ∀ c' ∈ css.set i (vs.take off ++ us ++ vs.drop (off + us.length)), c'.length = sz := by
      intro c' hc'
      rcases List.mem_or_eq_of_mem_set hc' with hc' | rfl
      · exact hs c' hc'
      · simp; omega
    have hfs := flat_set hs hi hl
    intro r cs hr j u hu
    have hf := flat_get hcss' r cs hr j u hu
    have hlen : (css.set i (vs.take off ++ us ++ vs.drop (off + us.length))).flatten.length = css.length * sz := by rw [flat_length hcss', List.length_set]
    have hq : r * sz + j < css.length * sz := by rw [← hlen]; exact (List.getElem?_eq_some_iff.1 hf).1
    obtain ⟨q1, q2⟩ := hat _ hq
    rw [q1]
    unfold World.cell?
    rw [setRow_heap w _ cur _ el _ hg]
    simp only [Option.isSome_none, Bool.false_eq_true, if_false]
    rw [hfs] at hf
    rw [← hf, List.getElem?_toArray]
    have hct : ∀ m, cur.toList[ad.off + m]? = cur[ad.off + m]? := fun m => by simp
    have l1 : (cur.toList.take (ad.off + (i * sz + off))).length = ad.off + (i * sz + off) := by simp; omega
    have l2 : (css.flatten.take (i * sz + off)).length = i * sz + off := by rw [List.length_take, hfl]; omega
    rw [get3, get3, l1, l2]
    by_cases h : r * sz + j < i * sz + off
    · rw [if_pos (by omega), if_pos h, List.getElem?_take_of_lt (by omega), List.getElem?_take_of_lt h, hct, q2]
    · rw [if_neg (by omega), if_neg h]
      by_cases h' : r * sz + j < i * sz + off + us.length
      · rw [if_pos (by omega), if_pos h']
        congr 1
        omega
      · rw [if_neg (by omega), if_neg h', List.getElem?_drop, List.getElem?_drop]
        have e1 : ad.off + (i * sz + off) + us.length + (ad.off + (r * sz + j) - (ad.off + (i * sz + off)) - us.length) = ad.off + (r * sz + j) := by omega
        have e2 : i * sz + off + us.length + (r * sz + j - (i * sz + off) - us.length) = r * sz + j := by omega
        rw [e1, e2, hct, q2]

section
variable {P : Program} {E : Nat → Option TI} {vl : Operand → Option AV} {σ : St}
variable {dst : Option Tmp} {type : TypeId} {pos : String} {after : Array Edge} {guard : Option (Nat × Bool)} {K : AV → St → Prop}

def SoundE (P : Program) (vl : Operand → Option AV) (o : Oper) (σ : St) (K : AV → St → Prop) : Prop :=
  ∃ av σ', K av σ' ∧ σ'.env = σ.env ∧ σ.next ≤ σ'.next ∧ σ'.wf ∧ GoesE P vl o σ σ' av

theorem wp_skip_op {o : Oper} {a : Act} {w w' : World} {Kc : Act → World → Prop} {Q : Exit → Act → World → Prop}
    (h : (execOp a.eval o).run P w = .ok .skip w') (hk : Kc (a.put o.dst undef) w') : o.wp P a w Kc Q := by
  unfold Oper.wp
  rw [h]
  exact hk

theorem run_storeVar {t : Nat} {ti : TI} (hE : TIok P t ti) (g off : Nat) (el : TypeId) (cur : Array Value) (w : World) (hg : w.heap[g]? = some (.cells cur el (0, 0))) (u : Value) (us : List Value) (hu : u.cells = us.toArray)
    (hl : us.length = ti.size) (hb : off + us.length ≤ cur.size) (h1 : ∀ v ∈ us, v.oneCell' = true) :
    (storeVar t ⟨g, off, none⟩ u).run P w = .ok () (w.setRow g (cur.toList.take off ++ us ++ cur.toList.drop (off + us.length)).toArray) := by
  obtain ⟨i, z, hi, hs, _⟩ := hE.info
  have hst := run_storeCells_at P g off el us 0 cur w hg (by simpa using hb) h1
  simp only [Nat.add_zero] at hst
  have hsz : (us.toArray.size ≠ i.size) = False := by simp [hl, hs]
  simp [storeVar, hu, sizeOf, typeInfo, hi, hl, hs, hst]

theorem Vm.put_eq {α : Type} (l : List (Nat × α)) (n : Nat) (v : α) : Vm.put l n v = (n, v) :: del l n := rfl

theorem wf_put {l : List (Nat × Ob)} {n k : Nat} {v : Ob} (h : ∀ id o, get l id = some o → id < k) (hn : n < k) : ∀ id o, get (Vm.put l n v) id = some o → id < k := by
  intro id o ho
  by_cases e : id = n
  · subst e; exact hn
  · rw [get_put_other _ _ _ _ e] at ho; exact h id o ho
theorem wf_dels {l : List (Nat × Ob)} {k : Nat} {ids : List Nat} (h : ∀ id o, get l id = some o → id < k) : ∀ id o, get (dels l ids) id = some o → id < k := by
  intro id o ho
  by_cases e : id ∈ ids
  · rw [(get_dels ids l id).1 e] at ho; cases ho
  · rw [(get_dels ids l id).2 e] at ho; exact h id o ho

theorem sound_store (hE : TOk P E) (hw : σ.wf) {t : Nat} {x v : Operand} (h : opE E vl (.store t x v) σ K) : SoundE P vl ⟨dst, .store t x v, type, pos, after, guard⟩ σ K := by
  simp only [opE] at h
  have h' := need_some h; clear h
  obtain ⟨ti, e, h⟩ := h'
  have h' := need_some h; clear h
  obtain ⟨av, eav, h⟩ := h'
  have h' := need_some h; clear h
  obtain ⟨ns, ens, h⟩ := h'
  have h' := need_some h; clear h
  obtain ⟨vx, evx, h⟩ := h'
  have hx : x ∈ (Op.store t x v).operands := by simp [Op.operands]
  have hv : v ∈ (Op.store t x v).operands := by simp [Op.operands]
  split at h
  · rename_i id off
    have h' := need_some h; clear h
    obtain ⟨ob, eo, h⟩ := h'
    split at h
    · rename_i cs
      obtain ⟨⟨hl, hb⟩, h⟩ := h
      refine ⟨_, _, h, rfl, Nat.le_refl _, wf_put hw (hw id _ eo), ?_⟩
      intro w0 G w a Kc Q hM hops hfr hK
      have hxr := hops x hx _ evx
      simp only [AV.rep] at hxr
      obtain ⟨h1, ad, h2, h3⟩ := hxr
      obtain ⟨g, vs, el, h4, h5, h6, h7, hH⟩ := hM.obs id _ h1 eo
      rw [h2] at h4
      injection h4 with h4
      injection h4 with h4
      subst h4
      rw [lit_add] at h3
      obtain ⟨us, h8, h9⟩ := cellsOf_rep ens (hops v hv _ eav)
      have hul := repCs_length h9
      have hvl := repCs_length h6
      have hrun := run_storeVar (hE t ti e) g off el vs.toArray w h5 (a.eval v) us h8 (by omega) (by simp; omega) (repCs_one h9)
      have hlv : Lv σ.objs G id := ⟨h1, _, eo⟩
      have hhd : hd (G.φ id) = [g] := by rw [h2]; rfl
      have hnew := setRow_heap w g vs.toArray (vs.toArray.toList.take off ++ us ++ vs.toArray.toList.drop (off + us.length)).toArray el (0, 0) h5
      obtain ⟨hM', hp⟩ := hM.move (O' := Vm.put σ.objs id (.box (cs.take off ++ ns ++ cs.drop (off + ns.length)))) (w' := w.setRow g (vs.toArray.toList.take off ++ us ++ vs.toArray.toList.drop (off + us.length)).toArray)
        id (G.φ id) [g] [] (fun j hj _ => get_put_other _ _ _ _ hj) (by simp) (fun _ => rfl) rfl rfl rfl (by simp [World.setRow])
        (fun b _ hn => setRow_other w g b _ (fun e => hn id hlv (.inr rfl) (by rw [hH, e]; simp))) (by simp) (fun b hbb => by
          simp at hbb
          subst hbb
          exact ⟨.inr ⟨id, hlv, .inr rfl, by rw [h7]; simp⟩, _, _, hnew⟩) (fun b hbb => by
          rw [hhd] at hbb
          exact ⟨hbb, .inr ⟨id, hlv, by rw [hH]; exact hbb⟩⟩) (fun o ho p => by
          rw [get_put_same] at ho
          injection ho with ho
          subst ho
          refine ⟨g, _, el, by simp only [Gh.set, if_pos]; exact h2, hnew, repCs_pres p _ _ ?_, by simp only [Gh.set, if_pos], by simp only [Gh.set, if_pos]; exact hhd⟩
          rw [← hul]
          exact repCs_append (repCs_append (repCs_take off h6) h9) (repCs_drop _ h6))
      refine wp_skip_op (w' := w.setRow g (vs.toArray.toList.take off ++ us ++ vs.toArray.toList.drop (off + us.length)).toArray) ?_ (hK _ _ _ hM' hp ?_ (fun j hj => ?_))
      · simp [execOp, Instr.storeAt, Instr.sureAddr, h3, hrun]
      · simp only [AV.rep]
      · rcases hj with hj | hj
        · exact hfr j hj
        · subst hj; exact hw _ _ eo
    · exact h.elim
  · rename_i id sz i off
    have h' := need_some h; clear h
    obtain ⟨ob, eo, h⟩ := h'
    split at h
    · rename_i own app sz' rows
      obtain ⟨rfl, cs, hcs, ⟨hl, hb⟩, hpos, h⟩ := h
      have h' := need_some h; clear h
      obtain ⟨tm, etm, hnd, h⟩ := h'
      have hnd' := nodupB_iff hnd
      obtain ⟨hid, hids⟩ := List.nodup_cons.1 hnd'
      refine ⟨_, _, h, rfl, Nat.le_refl _, wf_put (wf_dels hw) (hw id _ eo), ?_⟩
      intro w0 G w a Kc Q hM hops hfr hK
      have hxr := hops x hx _ evx
      simp only [AV.rep] at hxr
      obtain ⟨h1, ad, n, c, h2, h3⟩ := hxr
      have hlv : Lv σ.objs G id := ⟨h1, _, eo⟩
      obtain ⟨css0, F0, _, _, _, himm0⟩ := hM.row h1 eo
      obtain ⟨css, F', h4, h5, h6, h7⟩ := hM.obs id _ h1 eo
      obtain ⟨FA, Fi, FB, vs, hF', h8, h9, hset⟩ := repRows_set h4 hcs
      obtain ⟨us, h10, h11⟩ := cellsOf_rep ens (hops v hv _ eav)
      have hul := repCs_length h11
      obtain ⟨Fm, m1, m2, m3, m4⟩ := moveCs_rep hM etm h11 hids
      have hvl : vs.length = cs.length := repCells_length h9
      have hvs : vs.length = sz := h5 vs (List.mem_of_getElem? h8)
      have hlt : i < rows.length := (List.getElem?_eq_some_iff.1 hcs).1
      have hcss' : ∀ c' ∈ css.set i (vs.take off ++ us ++ vs.drop (off + us.length)), c'.length = sz := by
        intro c' hc'
        rcases List.mem_or_eq_of_mem_set hc' with hc' | rfl
        · exact h5 c' hc'
        · simp; omega
      have hpos' := Nat.le_of_ble_eq_true hpos
      -- the block that is written
      have key : ∃ g cur el k, w.heap[g]? = some (.cells cur el (0, 0)) ∧ hd (G.φ id) = [g] ∧ a.eval x = .pointer (some ⟨g, k, none⟩) ∧ k + us.length ≤ cur.size ∧ G.h id = hd (G.φ id) ∧
          (if app then RowOwn (w.setRow g (cur.toList.take k ++ us ++ cur.toList.drop (k + us.length)).toArray) (G.φ id) rows.length sz (css.set i (vs.take off ++ us ++ vs.drop (off + us.length))).flatten
            else RowWeak (w.setRow g (cur.toList.take k ++ us ++ cur.toList.drop (k + us.length)).toArray) (G.φ id) rows.length sz (css.set i (vs.take off ++ us ++ vs.drop (off + us.length)))) := by
        cases app with
        | true =>
          simp only [if_true] at h6 ⊢
          rcases h6.1.2 with ⟨A, hA, hn0⟩ | ⟨g, cap, cur, el, hφ, hcap, hg, hnc, hcm, hcsz, htk⟩
          · omega
          have hhd : hd (G.φ id) = [g] := by rw [hφ]; cases cap with | zero => omega | succ c => rfl
          rw [hφ] at h2
          injection h2 with h2 _ _
          injection h2 with h2
          subst h2
          rw [lit_add] at h3
          have hN : rows.length * sz ≤ cur.size := by rw [hcsz]; exact Nat.mul_le_mul_right _ hnc
          have hk : i * sz + off + us.length ≤ rows.length * sz := by
            have : (i + 1) * sz ≤ rows.length * sz := Nat.mul_le_mul_right _ hlt
            rw [Nat.add_mul, Nat.one_mul] at this
            omega
          refine ⟨g, cur, el, i * sz + off, hg, hhd, h3, by omega, h6.2, ?_⟩
          have hnew := setRow_heap w g cur (cur.toList.take (i * sz + off) ++ us ++ cur.toList.drop (i * sz + off + us.length)).toArray el (0, 0) hg
          refine ⟨by rw [flat_length hcss', List.length_set, repRows_length h4], .inr ⟨g, cap, _, el, hφ, hcap, hnew, hnc, hcm, ?_, ?_⟩⟩
          · simp only [List.size_toArray, List.length_append, List.length_take, List.length_drop, Array.length_toList]
            omega
          · rw [flat_set h5 h8 (by omega), ← htk]
            have e1 : (cur.toList.take (i * sz + off) ++ us).length = i * sz + off + us.length := by simp; omega
            rw [List.take_take, Nat.min_eq_left (by omega), List.drop_take, List.take_append, e1, List.take_of_length_le (by omega)]
        | false =>
          simp only [Bool.false_eq_true, if_false] at h6 ⊢
          obtain ⟨hW, hh6⟩ := h6
          have hh6' : G.h id = hd (G.φ id) := by
            rcases hh6 with h | ⟨hr0, _⟩
            · exact h
            · rw [hr0] at hlt; simp at hlt
          obtain ⟨g, cur, el, k, a1, a2, a3, a4, a5⟩ := weak_store (off := off) (us := us) hW h5 h2 h8 (by omega) (by omega) (repRows_length h4)
          exact ⟨g, cur, el, k, a1, a2, by rw [h3, a3], a4, hh6', a5⟩
      obtain ⟨g, cur, el, k, hg, hhd, h3', hkb, hHd, hrowNew⟩ := key
      have hrun := run_storeVar (hE t ti e) g k el cur w hg (a.eval v) us h10 (by omega) hkb (repCs_one h11)
      have hnew := setRow_heap w g cur (cur.toList.take k ++ us ++ cur.toList.drop (k + us.length)).toArray el (0, 0) hg
      rw [← hHd] at hhd
      obtain ⟨F1, F2, F3, hFi, r1, r2, r3⟩ := repCells_split off us.length h9
      generalize hw' : w.setRow g (cur.toList.take k ++ us ++ cur.toList.drop (k + us.length)).toArray = w' at hrun hnew hrowNew
      have hoth : ∀ b, b ≠ g → w'.heap[b]? = w.heap[b]? := fun b hb => by rw [← hw']; exact setRow_other w g b _ hb
      -- nothing nested lies in the block that is written
      have hFg : ∀ b ∈ F', b ≠ g := by
        intro b hb e
        subst e
        cases own with
        | true =>
          simp only [if_true] at h7
          have := hM.nodup id hlv
          rw [h7, hhd] at this
          exact (List.nodup_append.1 this).2.2 b (by simp) b hb rfl
        | false =>
          simp only [Bool.false_eq_true, if_false] at h7
          exact h7.2 id hlv b hb (by rw [hhd]; simp)
      have hmg : ∀ b ∈ Fm, b ≠ g := fun b hb e => m4 b hb id hlv hid (by rw [hhd, e]; simp)
      have hsub : ∀ b, (b ∈ FA ∨ b ∈ F1 ∨ b ∈ F3 ∨ b ∈ FB) → b ∈ F' := by
        intro b hb
        rw [hF', hFi]
        rcases hb with hb | hb | hb | hb <;> simp [hb]
      -- the new footprint
      have hrows : repRows w' (rows.set i (cs.take off ++ tm.1 ++ cs.drop (off + ns.length))) (css.set i (vs.take off ++ us ++ vs.drop (off + us.length))) (FA ++ (F1 ++ Fm ++ F3) ++ FB) := by
        refine hset _ _ _ w' ?_ (fun b hb => hoth b (hFg b (hsub b (by rcases List.mem_append.1 hb with hb | hb <;> simp [hb]))))
        rw [← hul]
        exact repCells_append (repCells_append (repCells_keep _ _ _ r1 (fun b hb => hoth b (hFg b (hsub b (by simp [hb]))))) (repCells_keep _ _ _ m1 (fun b hb => hoth b (hmg b hb)))) (repCells_keep _ _ _ r3 (fun b hb => hoth b (hFg b (hsub b (by simp [hb])))))
      have hFsub : ∀ b ∈ FA ++ (F1 ++ Fm ++ F3) ++ FB, b ∈ F' ∨ b ∈ Fm := by
        intro b hb
        simp only [List.mem_append] at hb
        rcases hb with (hb | ((hb | hb) | hb)) | hb
        · exact .inl (hsub b (by simp [hb]))
        · exact .inl (hsub b (by simp [hb]))
        · exact .inr hb
        · exact .inl (hsub b (by simp [hb]))
        · exact .inl (hsub b (by simp [hb]))
      have hgcell : ∃ arr e, w'.heap[g]? = some (.cells arr e (0, 0)) := ⟨_, _, hnew⟩
      have hold : ∀ b, b ≠ g → (∃ j, Lv σ.objs G j ∧ b ∈ G.Φ j) → ∃ arr e, w'.heap[b]? = some (.cells arr e (0, 0)) := fun b hb ⟨j, hj, hbj⟩ => by
        obtain ⟨_, arr, e, hh⟩ := hM.lo j hj b hbj
        exact ⟨arr, e, by rw [hoth b hb]; exact hh⟩
      obtain ⟨hM', hp⟩ := hM.move (O' := Vm.put (dels σ.objs tm.2) id (.row own app sz (rows.set i (cs.take off ++ tm.1 ++ cs.drop (off + ns.length))))) (w' := w')
        id (G.φ id) (G.h id ++ (if own then FA ++ (F1 ++ Fm ++ F3) ++ FB else [])) tm.2
        (fun j hj hn => by rw [get_put_other _ _ _ _ hj, (get_dels _ _ _).2 hn]) (fun j hj hn => by rw [get_put_other _ _ _ _ hj, (get_dels _ _ _).1 hn]) (fun _ => rfl)
        (by rw [← hw']; rfl) (by rw [← hw']; rfl) (by rw [← hw']; rfl) (by rw [← hw']; simp [World.setRow])
        (fun b _ hn => hoth b (fun e => hn id hlv (.inr rfl) (by rw [hhd, e]; simp)))
        (by
          cases own with
          | false => simp [hhd]
          | true =>
            simp only [if_true]
            simp only [if_true] at h7
            obtain ⟨m5, m6⟩ := m3 rfl
            have hnd2 := hM.nodup id hlv
            rw [h7, hF', hFi] at hnd2
            have e1 : G.h id ++ (FA ++ (F1 ++ F2 ++ F3) ++ FB) = (G.h id ++ FA ++ F1) ++ F2 ++ (F3 ++ FB) := by simp
            have e2 : G.h id ++ (FA ++ (F1 ++ Fm ++ F3) ++ FB) = (G.h id ++ FA ++ F1) ++ Fm ++ (F3 ++ FB) := by simp
            rw [e1] at hnd2
            rw [e2]
            refine nodup_swap hnd2 m5 (fun b hb hbm => ?_)
            obtain ⟨j, hj, hbj⟩ := m6 b hbm
            refine hM.disj j id (m2 j hj) hlv (fun e => hid (e ▸ hj)) b hbj ?_
            rw [h7, hF', hFi]
            simp only [List.mem_append] at hb ⊢
            rcases hb with ((hb | hb) | hb) | (hb | hb) <;> simp [hb])
        (by
          intro b hbb
          rcases List.mem_append.1 hbb with hb1 | hb1
          · rw [hhd] at hb1
            simp at hb1
            subst hb1
            exact ⟨.inr ⟨id, hlv, .inr rfl, hM.hds id hlv b (by rw [hhd]; simp)⟩, hgcell⟩
          · cases own with
            | false => simp at hb1
            | true =>
              simp only [if_true] at hb1 h7
              rcases hFsub b hb1 with hb2 | hb2
              · have hbΦ : b ∈ G.Φ id := by rw [h7]; simp [hb2]
                exact ⟨.inr ⟨id, hlv, .inr rfl, hbΦ⟩, hold b (hFg b hb2) ⟨id, hlv, hbΦ⟩⟩
              · obtain ⟨j, hj, hbj⟩ := (m3 rfl).2 b hb2
                exact ⟨.inr ⟨j, m2 j hj, .inl hj, hbj⟩, hold b (hmg b hb2) ⟨j, m2 j hj, hbj⟩⟩)
        (fun b hbb => by rw [← hHd] at hbb; exact ⟨by simp [hbb], .inr ⟨id, hlv, hbb⟩⟩)
        (fun o ho p => by
          rw [get_put_same] at ho
          injection ho with ho
          subst ho
          refine ⟨_, _, hrows, hcss', ?_, ?_⟩
          · cases app with
            | true => simp only [if_true, Gh.set, List.length_set] at hrowNew ⊢; exact ⟨hrowNew, trivial⟩
            | false => simp only [if_true, Bool.false_eq_true, if_false, Gh.set, List.length_set] at hrowNew ⊢; exact ⟨hrowNew, .inl trivial⟩
          · cases own with
            | true => simp only [if_true, Gh.set, hHd]
            | false =>
              simp only [Bool.false_eq_true, if_false, Gh.set, if_true, List.append_nil, hHd, true_and]
              simp only [Bool.false_eq_true, if_false] at h7
              intro j hj b hb hbj
              have hjl : Lv σ.objs G j ∧ j ∉ tm.2 := by
                obtain ⟨ha, o', ho'⟩ := hj
                by_cases e : j = id
                · subst e; exact ⟨hlv, hid⟩
                · rw [get_put_other _ _ _ _ e] at ho'
                  by_cases hjm : j ∈ tm.2
                  · rw [(get_dels _ _ _).1 hjm] at ho'; cases ho'
                  · rw [(get_dels _ _ _).2 hjm] at ho'
                    rcases ha with ha | ha
                    · exact ⟨⟨ha, o', ho'⟩, hjm⟩
                    · exact absurd ha e
              have hbj' : b ∈ G.h j := by
                by_cases e : j = id
                · subst e; rw [hHd]; simpa using hbj
                · simpa [e] using hbj
              rcases hFsub b hb with hb2 | hb2
              · exact h7.2 j hjl.1 b hb2 hbj'
              · exact m4 b hb2 j hjl.1 hjl.2 hbj')
      refine wp_skip_op (w' := w') ?_ (hK _ _ _ hM' hp ?_ (fun j hj => ?_))
      · simp [execOp, Instr.storeAt, Instr.sureAddr, h3', hrun]
      · simp only [AV.rep]
      · rcases hj with hj | hj
        · exact hfr j hj
        · subst hj; exact hw _ _ eo
    · exact h.elim
  · exact h.elim
end
end Go.Vm
