/-
  Soundness of the operations that write.
  Soundness of append, and of all operations that write.
  Conditions: the table of types fits the program ('TOk').
-/
import Derived.Test.YtpipfobdfcnghaaVmK
namespace Go.Vm
open Go.RowKit

theorem flat_length {css : List (List Value)} {sz : Nat} (hs : ∀ cs ∈ css, cs.length = sz) : css.flatten.length = css.length * sz := by
  induction css with
  | nil => simp
  | cons c cs ih => simp only [List.flatten_cons, List.length_append, List.length_cons, Nat.add_mul, Nat.one_mul]; rw [ih (fun x hx => hs x (by simp [hx])), hs c (by simp)]; omega

theorem flat_set {sz : Nat} : ∀ {css : List (List Value)} {i off : Nat} {vs us : List Value}, (∀ cs ∈ css, cs.length = sz) → css[i]? = some vs → off + us.length ≤ sz →
    (css.set i (vs.take off ++ us ++ vs.drop (off + us.length))).flatten = css.flatten.take (i * sz + off) ++ us ++ css.flatten.drop (i * sz + off + us.length)
  | [], i, off, vs, us, _, hi, _ => by simp at hi
  | c :: cs, i, off, vs, us, hs, hi, hl => by
    have hc : c.length = sz := hs c (by simp)
    cases i with
    | zero =>
      simp at hi
      subst hi
      simp only [List.set_cons_zero, List.flatten_cons, Nat.zero_mul, Nat.zero_add]
      rw [List.take_append_of_le_length (by omega), List.drop_append_of_le_length (by omega)]
      simp
    | succ i =>
      have ih := flat_set (off := off) (us := us) (fun x hx => hs x (by simp [hx])) (by simpa using hi : cs[i]? = some vs) hl
      simp only [List.set_cons_succ, List.flatten_cons, ih]
      have e1 : (i + 1) * sz + off = c.length + (i * sz + off) := by rw [hc, Nat.add_mul]; omega
      have t1 : ∀ (f : List Value) (k : Nat), (c ++ f).take (c.length + k) = c ++ f.take k := fun f k => by
        rw [List.take_append, Nat.add_sub_cancel_left, List.take_of_length_le (Nat.le_add_right _ _)]
      have t2 : ∀ (f : List Value) (k : Nat), (c ++ f).drop (c.length + k) = f.drop k := fun f k => by
        rw [List.drop_append, Nat.add_sub_cancel_left, List.drop_of_length_le (Nat.le_add_right _ _), List.nil_append]
      rw [e1, Nat.add_assoc c.length, t1, t2]
      simp

theorem grid_flat {w : World} {ad : Addr} {sz : Nat} {css : List (List Value)} (hs : ∀ cs ∈ css, cs.length = sz)
    (hg : ∀ (i : Nat) cs, css[i]? = some cs → ∀ (j : Nat) u, cs[j]? = some u → w.cell? (ad.add (i * sz + j)) = some u) : ∀ (k : Nat) u, css.flatten[k]? = some u → w.cell? (ad.add k) = some u := by
  intro k u hu
  have hk := (List.getElem?_eq_some_iff.1 hu).1
  rw [flat_length hs] at hk
  have hsz : 0 < sz := by
    rcases Nat.eq_zero_or_pos sz with h | h
    · subst h; simp at hk
    · exact h
  have hi : k / sz < css.length := by rw [Nat.div_lt_iff_lt_mul hsz]; exact hk
  have hci : css[k / sz]? = some css[k / sz] := List.getElem?_eq_getElem hi
  have hlen := hs _ (List.getElem_mem hi)
  have hj : k % sz < css[k / sz].length := by rw [hlen]; exact Nat.mod_lt _ hsz
  have e : k / sz * sz + k % sz = k := by rw [Nat.mul_comm]; exact Nat.div_add_mod k sz
  have h1 := flat_get hs _ _ hci _ _ (List.getElem?_eq_getElem hj)
  rw [e, hu] at h1
  injection h1 with h1
  have h2 := hg _ _ hci _ _ (List.getElem?_eq_getElem hj)
  rw [e, ← h1] at h2
  exact h2

theorem nodup_swap {a b c b' : List Nat} (h : (a ++ b ++ c).Nodup) (hb : b'.Nodup) (h1 : ∀ x ∈ a ++ c, x ∉ b') : (a ++ b' ++ c).Nodup := by
  rw [List.append_assoc, List.nodup_append] at h
  obtain ⟨ha, hbc, hd1⟩ := h
  obtain ⟨_, hc, _⟩ := List.nodup_append.1 hbc
  rw [List.append_assoc, List.nodup_append]
  refine ⟨ha, List.nodup_append.2 ⟨hb, hc, fun x hx y hy e => ?_⟩, fun x hx y hy e => ?_⟩
  · subst e; exact h1 x (by simp [hy]) hx
  · subst e
    rcases List.mem_append.1 hy with hy | hy
    · exact h1 x (by simp [hx]) hy
    · exact hd1 x hx x (by simp [hy]) rfl

theorem get3 {α : Type} (a u b : List α) (q : Nat) : (a ++ u ++ b)[q]? = if q < a.length then a[q]? else if q < a.length + u.length then u[q - a.length]? else b[q - a.length - u.length]? := by
  by_cases h : q < a.length
  · rw [if_pos h, List.append_assoc, List.getElem?_append_left h]
  · rw [if_neg h, List.append_assoc, List.getElem?_append_right (by omega)]
    by_cases h' : q < a.length + u.length
    · rw [if_pos h', List.getElem?_append_left (by omega)]
    · rw [if_neg h', List.getElem?_append_right (by omega)]

/-- A cell of a row written, of which only the cells are known. -/
theorem weak_store {w : World} {v : Value} {N sz i off n c : Nat} {ad : Addr} {css : List (List Value)} {vs us : List Value} (hW : RowWeak w v N sz css) (hs : ∀ cs ∈ css, cs.length = sz) (hv : v = .slice (some ad) n c)
    (hi : css[i]? = some vs) (hl : off + us.length ≤ sz) (hpos : 0 < us.length) (hN : css.length = N) :
    ∃ g cur el k, w.heap[g]? = some (.cells cur el (0, 0)) ∧ hd v = [g] ∧ Value.pointer (some (ad.add (i * sz + off))) = .pointer (some ⟨g, k, none⟩) ∧ k + us.length ≤ cur.size ∧
      RowWeak (w.setRow g (cur.toList.take k ++ us ++ cur.toList.drop (k + us.length)).toArray) v N sz (css.set i (vs.take off ++ us ++ vs.drop (off + us.length))) := by
  have hlt : i < css.length := (List.getElem?_eq_some_iff.1 hi).1
  obtain ⟨A, c', hv', hnc, hcells⟩ := hW
  obtain ⟨ad', rfl, ⟨cur, el, hg⟩, hcell⟩ := hcells (by omega)
  rw [hv] at hv'
  injection hv' with e1 e2 e3
  injection e1 with e1
  subst e1 e2 e3
  have hgrid := grid_flat hs hcell
  have hvs : vs.length = sz := hs vs (List.mem_of_getElem? hi)
  have hfl := flat_length hs
  have hbnd : i * sz + off + us.length ≤ css.length * sz := by
    have : (i + 1) * sz ≤ css.length * sz := Nat.mul_le_mul_right _ hlt
    rw [Nat.add_mul, Nat.one_mul] at this
    omega
  have hat : ∀ q, q < css.length * sz → ad.add q = ⟨ad.block, ad.off + q, none⟩ ∧ cur[ad.off + q]? = css.flatten[q]? := by
    intro q hq
    have hq' : css.flatten[q]? = some css.flatten[q] := List.getElem?_eq_getElem (by rw [hfl]; exact hq)
    have h1 := hgrid q _ hq'
    have hb : (ad.add q).block = ad.block := block_of_add ad q
    have ho : (ad.add q).off = ad.off + q := by unfold Addr.add; split <;> simp_all
    unfold World.cell? at h1
    rw [hb, hg] at h1
    simp only at h1
    split at h1
    · cases h1
    · rename_i hsp
      have hsp' : (ad.add q).spot = none := by simpa using hsp
      refine ⟨?_, by rw [hq', ← h1, ho]⟩
      cases hA : ad.add q with
      | mk b o s => rw [hA] at hb ho hsp'; simp at hb ho hsp'; simp [hb, ho, hsp']
  have hk0 := (hat (i * sz + off) (by omega)).1
  have hsz : ad.off + (i * sz + off) + us.length ≤ cur.size := by
    have h1 := (hat (i * sz + off + (us.length - 1)) (by omega)).2
    rw [List.getElem?_eq_getElem (by rw [hfl]; omega)] at h1
    have := (Array.getElem?_eq_some_iff.1 h1).1
    omega
  refine ⟨ad.block, cur, el, ad.off + (i * sz + off), hg, ?_, by rw [hk0], hsz, some ad, c, hv, hnc, fun _ => ⟨ad, rfl, ⟨_, el, setRow_heap w _ cur _ el _ hg⟩, ?_⟩⟩
  · rw [hv]
    cases c with
    | zero => omega
    | succ c => rfl
  · have hcss' : ∀ c' ∈ css.set i (vs.take off ++ us ++ vs.drop (off + us.length)), c'.length = sz := by
      intro c' hc'
      rcases List.mem_or_eq_of_mem_set hc' with hc' | rfl
      · exact hs c' hc'
      · simp; omega
    have hfs := flat_set hs hi hl
    intro r cs hr j u hu
    have hf := flat_get hcss' r cs hr j u hu
    have hlen : (css.set i (vs.take off ++ us ++ vs.drop (off + us.length))).flatten.length = css.length * sz := by rw [flat_length hcss', List.length_set]
    have hq : r * sz + j < css.length * sz := by rw [← hlen]; exact (List.getElem?_eq_some_iff.1 hf).1
    obtain ⟨q1, q2⟩ := hat _ hq
    rw [q1]
    unfold World.cell?
    rw [setRow_heap w _ cur _ el _ hg]
    simp only [Option.isSome_none, Bool.false_eq_true, if_false]
    rw [hfs] at hf
    rw [← hf, List.getElem?_toArray]
    have hct : ∀ m, cur.toList[ad.off + m]? = cur[ad.off + m]? := fun m => by simp
    have l1 : (cur.toList.take (ad.off + (i * sz + off))).length = ad.off + (i * sz + off) := by simp; omega
    have l2 : (css.flatten.take (i * sz + off)).length = i * sz + off := by rw [List.length_take, hfl]; omega
    rw [get3, get3, l1, l2]
    by_cases h : r * sz + j < i * sz + off
    · rw [if_pos (by omega), if_pos h, List.getElem?_take_of_lt (by omega), List.getElem?_take_of_lt h, hct, q2]
    · rw [if_neg (by omega), if_neg h]
      by_cases h' : r * sz + j < i * sz + off + us.length
      · rw [if_pos (by omega), if_pos h']
        congr 1
        omega
      · rw [if_neg (by omega), if_neg h', List.getElem?_drop, List.getElem?_drop]
        have e1 : ad.off + (i * sz + off) + us.length + (ad.off + (r * sz + j) - (ad.off + (i * sz + off)) - us.length) = ad.off + (r * sz + j) := by omega
        have e2 : i * sz + off + us.length + (r * sz + j - (i * sz + off) - us.length) = r * sz + j := by omega
        rw [e1, e2, hct, q2]

section
variable {P : Program} {E : Nat → Option TI} {vl : Operand → Option AV} {σ : St}
variable {dst : Option Tmp} {type : TypeId} {pos : String} {after : Array Edge} {guard : Option (Nat × Bool)} {K : AV → St → Prop}

def SoundE (P : Program) (vl : Operand → Option AV) (o : Oper) (σ : St) (K : AV → St → Prop) : Prop :=
  ∃ av σ', K av σ' ∧ σ'.env = σ.env ∧ σ.next ≤ σ'.next ∧ σ'.wf ∧ GoesE P vl o σ σ' av

theorem wp_skip_op {o : Oper} {a : Act} {w w' : World} {Kc : Act → World → Prop} {Q : Exit → Act → World → Prop}
    (h : (execOp a.eval o).run P w = .ok .skip w') (hk : Kc (a.put o.dst undef) w') : o.wp P a w Kc Q := by
  unfold Oper.wp
  rw [h]
  exact hk

theorem run_storeVar {t : Nat} {ti : TI} (hE : TIok P t ti) (g off : Nat) (el : TypeId) (cur : Array Value) (w : World) (hg : w.heap[g]? = some (.cells cur el (0, 0))) (u : Value) (us : List Value) (hu : u.cells = us.toArray)
    (hl : us.length = ti.size) (hb : off + us.length ≤ cur.size) (h1 : ∀ v ∈ us, v.oneCell' = true) :
    (storeVar t ⟨g, off, none⟩ u).run P w = .ok () (w.setRow g (cur.toList.take off ++ us ++ cur.toList.drop (off + us.length)).toArray) := by
  obtain ⟨i, z, hi, hs, _⟩ := hE.info
  have hst := run_storeCells_at P g off el us 0 cur w hg (by simpa using hb) h1
  simp only [Nat.add_zero] at hst
  have hsz : (us.toArray.size ≠ i.size) = False := by simp [hl, hs]
  simp [storeVar, hu, sizeOf, typeInfo, hi, hl, hs, hst]

theorem Vm.put_eq {α : Type} (l : List (Nat × α)) (n : Nat) (v : α) : Vm.put l n v = (n, v) :: del l n := rfl

theorem wf_put {l : List (Nat × Ob)} {n k : Nat} {v : Ob} (h : ∀ id o, get l id = some o → id < k) (hn : n < k) : ∀ id o, get (Vm.put l n v) id = some o → id < k := by
  intro id o ho
  by_cases e : id = n
  · subst e; exact hn
  · rw [get_put_other _ _ _ _ e] at ho; exact h id o ho
theorem wf_dels {l : List (Nat × Ob)} {k : Nat} {ids : List Nat} (h : ∀ id o, get l id = some o → id < k) : ∀ id o, get (dels l ids) id = some o → id < k := by
  intro id o ho
  by_cases e : id ∈ ids
  · rw [(get_dels ids l id).1 e] at ho; cases ho
  · rw [(get_dels ids l id).2 e] at ho; exact h id o ho

theorem sound_store (hE : TOk P E) (hw : σ.wf) {t : Nat} {x v : Operand} (h : opE E vl (.store t x v) σ K) : SoundE P vl ⟨dst, .store t x v, type, pos, after, guard⟩ σ K := by
  simp only [opE] at h
  have h' := need_some h; clear h
  obtain ⟨ti, e, h⟩ := h'
  have h' := need_some h; clear h
  obtain ⟨av, eav, h⟩ := h'
  have h' := need_some h; clear h
  obtain ⟨ns, ens, h⟩ := h'
  have h' := need_some h; clear h
  obtain ⟨vx, evx, h⟩ := h'
  have hx : x ∈ (Op.store t x v).operands := by simp [Op.operands]
  have hv : v ∈ (Op.store t x v).operands := by simp [Op.operands]
  split at h
  · rename_i id off
    have h' := need_some h; clear h
    obtain ⟨ob, eo, h⟩ := h'
    split at h
    · rename_i cs
      obtain ⟨⟨hl, hb⟩, h⟩ := h
      refine ⟨_, _, h, rfl, Nat.le_refl _, wf_put hw (hw id _ eo), ?_⟩
      intro w0 G w a Kc Q hM hops hfr hK
      have hxr := hops x hx _ evx
      simp only [AV.rep] at hxr
      obtain ⟨h1, ad, h2, h3⟩ := hxr
      obtain ⟨g, vs, el, h4, h5, h6, h7, hH⟩ := hM.obs id _ h1 eo
      rw [h2] at h4
      injection h4 with h4
      injection h4 with h4
      subst h4
      rw [lit_add] at h3
      obtain ⟨us, h8, h9⟩ := cellsOf_rep ens (hops v hv _ eav)
      have hul := repCs_length h9
      have hvl := repCs_length h6
      have hrun := run_storeVar (hE t ti e) g off el vs.toArray w h5 (a.eval v) us h8 (by omega) (by simp; omega) (repCs_one h9)
      have hlv : Lv σ.objs G id := ⟨h1, _, eo⟩
      have hhd : hd (G.φ id) = [g] := by rw [h2]; rfl
      have hnew := setRow_heap w g vs.toArray (vs.toArray.toList.take off ++ us ++ vs.toArray.toList.drop (off + us.length)).toArray el (0, 0) h5
      obtain ⟨hM', hp⟩ := hM.move (O' := Vm.put σ.objs id (.box (cs.take off ++ ns ++ cs.drop (off + ns.length)))) (w' := w.setRow g (vs.toArray.toList.take off ++ us ++ vs.toArray.toList.drop (off + us.length)).toArray)
        id (G.φ id) [g] [] (fun j hj _ => get_put_other _ _ _ _ hj) (by simp) (fun _ => rfl) rfl rfl rfl (by simp [World.setRow])
        (fun b _ hn => setRow_other w g b _ (fun e => hn id hlv (.inr rfl) (by rw [hH, e]; simp))) (by simp) (fun b hbb => by
          simp at hbb
          subst hbb
          exact ⟨.inr ⟨id, hlv, .inr rfl, by rw [h7]; simp⟩, _, _, hnew⟩) (fun b hbb => by
          rw [hhd] at hbb
          exact ⟨hbb, .inr ⟨id, hlv, by rw [hH]; exact hbb⟩⟩) (fun o ho p => by
          rw [get_put_same] at ho
          injection ho with ho
          subst ho
          refine ⟨g, _, el, by simp only [Gh.set, if_pos]; exact h2, hnew, repCs_pres p _ _ ?_, by simp only [Gh.set, if_pos], by simp only [Gh.set, if_pos]; exact hhd⟩
          rw [← hul]
          exact repCs_append (repCs_append (repCs_take off h6) h9) (repCs_drop _ h6))
      refine wp_skip_op (w' := w.setRow g (vs.toArray.toList.take off ++ us ++ vs.toArray.toList.drop (off + us.length)).toArray) ?_ (hK _ _ _ hM' hp ?_ (fun j hj => ?_))
      · simp [execOp, Instr.storeAt, Instr.sureAddr, h3, hrun]
      · simp only [AV.rep]
      · rcases hj with hj | hj
        · exact hfr j hj
        · subst hj; exact hw _ _ eo
    · exact h.elim
  · rename_i id sz i off
    have h' := need_some h; clear h
    obtain ⟨ob, eo, h⟩ := h'
    split at h
    · rename_i own app sz' rows
      obtain ⟨rfl, cs, hcs, ⟨hl, hb⟩, hpos, h⟩ := h
      have h' := need_some h; clear h
      obtain ⟨tm, etm, hnd, h⟩ := h'
      have hnd' := nodupB_iff hnd
      obtain ⟨hid, hids⟩ := List.nodup_cons.1 hnd'
      refine ⟨_, _, h, rfl, Nat.le_refl _, wf_put (wf_dels hw) (hw id _ eo), ?_⟩
      intro w0 G w a Kc Q hM hops hfr hK
      have hxr := hops x hx _ evx
      simp only [AV.rep] at hxr
      obtain ⟨h1, ad, n, c, h2, h3⟩ := hxr
      have hlv : Lv σ.objs G id := ⟨h1, _, eo⟩
      obtain ⟨css0, F0, _, _, _, himm0⟩ := hM.row h1 eo
      obtain ⟨css, F', h4, h5, h6, h7⟩ := hM.obs id _ h1 eo
      obtain ⟨FA, Fi, FB, vs, hF', h8, h9, hset⟩ := repRows_set h4 hcs
      obtain ⟨us, h10, h11⟩ := cellsOf_rep ens (hops v hv _ eav)
      have hul := repCs_length h11
      obtain ⟨Fm, m1, m2, m3, m4⟩ := moveCs_rep hM etm h11 hids
      have hvl : vs.length = cs.length := repCells_length h9
      have hvs : vs.length = sz := h5 vs (List.mem_of_getElem? h8)
      have hlt : i < rows.length := (List.getElem?_eq_some_iff.1 hcs).1
      have hcss' : ∀ c' ∈ css.set i (vs.take off ++ us ++ vs.drop (off + us.length)), c'.length = sz := by
        intro c' hc'
        rcases List.mem_or_eq_of_mem_set hc' with hc' | rfl
        · exact h5 c' hc'
        · simp; omega
      have hpos' := Nat.le_of_ble_eq_true hpos
      -- the block that is written
      have key : ∃ g cur el k, w.heap[g]? = some (.cells cur el (0, 0)) ∧ hd (G.φ id) = [g] ∧ a.eval x = .pointer (some ⟨g, k, none⟩) ∧ k + us.length ≤ cur.size ∧ G.h id = hd (G.φ id) ∧
          (if app then RowOwn (w.setRow g (cur.toList.take k ++ us ++ cur.toList.drop (k + us.length)).toArray) (G.φ id) rows.length sz (css.set i (vs.take off ++ us ++ vs.drop (off + us.length))).flatten
            else RowWeak (w.setRow g (cur.toList.take k ++ us ++ cur.toList.drop (k + us.length)).toArray) (G.φ id) rows.length sz (css.set i (vs.take off ++ us ++ vs.drop (off + us.length)))) := by
        cases app with
        | true =>
          simp only [if_true] at h6 ⊢
          rcases h6.1.2 with ⟨A, hA, hn0⟩ | ⟨g, o, cap, cur, el, hφ, hcap, hg, hnc, hcm, hcsz, htk⟩
          · omega
          have hhd : hd (G.φ id) = [g] := by rw [hφ]; cases cap with | zero => omega | succ c => rfl
          rw [hφ] at h2
          injection h2 with h2 _ _
          injection h2 with h2
          subst h2
          rw [Addr.add_lit] at h3
          have hN : o + rows.length * sz ≤ cur.size := by rw [hcsz]; exact Nat.add_le_add_left (Nat.mul_le_mul_right _ hnc) _
          have hk : i * sz + off + us.length ≤ rows.length * sz := by
            have : (i + 1) * sz ≤ rows.length * sz := Nat.mul_le_mul_right _ hlt
            rw [Nat.add_mul, Nat.one_mul] at this
            omega
          refine ⟨g, cur, el, o + (i * sz + off), hg, hhd, h3, by omega, h6.2, ?_⟩
          have hnew := setRow_heap w g cur (cur.toList.take (o + (i * sz + off)) ++ us ++ cur.toList.drop (o + (i * sz + off) + us.length)).toArray el (0, 0) hg
          refine ⟨by rw [flat_length hcss', List.length_set, repRows_length h4], .inr ⟨g, o, cap, _, el, hφ, hcap, hnew, hnc, hcm, ?_, ?_⟩⟩
          · simp only [List.size_toArray, List.length_append, List.length_take, List.length_drop, Array.length_toList]
            omega
          · have hle : o ≤ (cur.toList.take (o + (i * sz + off))).length := by rw [List.length_take, Array.length_toList]; omega
            have hdo : (cur.toList.take (o + (i * sz + off)) ++ us ++ cur.toList.drop (o + (i * sz + off) + us.length)).drop o = (cur.toList.drop o).take (i * sz + off) ++ us ++ (cur.toList.drop o).drop (i * sz + off + us.length) := by
              rw [List.append_assoc, List.drop_append_of_le_length hle, List.drop_take, Nat.add_sub_cancel_left, List.drop_drop, List.append_assoc, show o + (i * sz + off) + us.length = o + (i * sz + off + us.length) from Nat.add_assoc _ _ _]
            show (_ : List Value) = _
            rw [show ((cur.toList.take (o + (i * sz + off)) ++ us ++ cur.toList.drop (o + (i * sz + off) + us.length)).toArray).toList = cur.toList.take (o + (i * sz + off)) ++ us ++ cur.toList.drop (o + (i * sz + off) + us.length) from rfl, hdo, flat_set h5 h8 (by omega), ← htk]
            have hDl : (cur.toList.drop o).length = cur.size - o := by rw [List.length_drop, Array.length_toList]
            generalize cur.toList.drop o = D at hDl ⊢
            have e1 : (D.take (i * sz + off) ++ us).length = i * sz + off + us.length := by simp; omega
            rw [List.take_take, Nat.min_eq_left (by omega), List.drop_take, List.take_append, e1, List.take_of_length_le (by omega)]
        | false =>
          simp only [Bool.false_eq_true, if_false] at h6 ⊢
          obtain ⟨hW, hh6⟩ := h6
          have hh6' : G.h id = hd (G.φ id) := by
            rcases hh6 with h | ⟨hr0, _⟩
            · exact h
            · rw [hr0] at hlt; simp at hlt
          obtain ⟨g, cur, el, k, a1, a2, a3, a4, a5⟩ := weak_store (off := off) (us := us) hW h5 h2 h8 (by omega) (by omega) (repRows_length h4)
          exact ⟨g, cur, el, k, a1, a2, by rw [h3, a3], a4, hh6', a5⟩
      obtain ⟨g, cur, el, k, hg, hhd, h3', hkb, hHd, hrowNew⟩ := key
      have hrun := run_storeVar (hE t ti e) g k el cur w hg (a.eval v) us h10 (by omega) hkb (repCs_one h11)
      have hnew := setRow_heap w g cur (cur.toList.take k ++ us ++ cur.toList.drop (k + us.length)).toArray el (0, 0) hg
      rw [← hHd] at hhd
      obtain ⟨F1, F2, F3, hFi, r1, r2, r3⟩ := repCells_split off us.length h9
      generalize hw' : w.setRow g (cur.toList.take k ++ us ++ cur.toList.drop (k + us.length)).toArray = w' at hrun hnew hrowNew
      have hoth : ∀ b, b ≠ g → w'.heap[b]? = w.heap[b]? := fun b hb => by rw [← hw']; exact setRow_other w g b _ hb
      -- nothing nested lies in the block that is written
      have hFg : ∀ b ∈ F', b ≠ g := by
        intro b hb e
        subst e
        cases own with
        | true =>
          simp only [if_true] at h7
          have := hM.nodup id hlv
          rw [h7, hhd] at this
          exact (List.nodup_append.1 this).2.2 b (by simp) b hb rfl
        | false =>
          simp only [Bool.false_eq_true, if_false] at h7
          exact h7.2 id hlv b hb (by rw [hhd]; simp)
      have hmg : ∀ b ∈ Fm, b ≠ g := fun b hb e => m4 b hb id hlv hid (by rw [hhd, e]; simp)
      have hsub : ∀ b, (b ∈ FA ∨ b ∈ F1 ∨ b ∈ F3 ∨ b ∈ FB) → b ∈ F' := by
        intro b hb
        rw [hF', hFi]
        rcases hb with hb | hb | hb | hb <;> simp [hb]
      -- the new footprint
      have hrows : repRows w' (rows.set i (cs.take off ++ tm.1 ++ cs.drop (off + ns.length))) (css.set i (vs.take off ++ us ++ vs.drop (off + us.length))) (FA ++ (F1 ++ Fm ++ F3) ++ FB) := by
        refine hset _ _ _ w' ?_ (fun b hb => hoth b (hFg b (hsub b (by rcases List.mem_append.1 hb with hb | hb <;> simp [hb]))))
        rw [← hul]
        exact repCells_append (repCells_append (repCells_keep _ _ _ r1 (fun b hb => hoth b (hFg b (hsub b (by simp [hb]))))) (repCells_keep _ _ _ m1 (fun b hb => hoth b (hmg b hb)))) (repCells_keep _ _ _ r3 (fun b hb => hoth b (hFg b (hsub b (by simp [hb])))))
      have hFsub : ∀ b ∈ FA ++ (F1 ++ Fm ++ F3) ++ FB, b ∈ F' ∨ b ∈ Fm := by
        intro b hb
        simp only [List.mem_append] at hb
        rcases hb with (hb | ((hb | hb) | hb)) | hb
        · exact .inl (hsub b (by simp [hb]))
        · exact .inl (hsub b (by simp [hb]))
        · exact .inr hb
        · exact .inl (hsub b (by simp [hb]))
        · exact .inl (hsub b (by simp [hb]))
      have hgcell : ∃ arr e, w'.heap[g]? = some (.cells arr e (0, 0)) := ⟨_, _, hnew⟩
      have hold : ∀ b, b ≠ g → (∃ j, Lv σ.objs G j ∧ b ∈ G.Φ j) → ∃ arr e, w'.heap[b]? = some (.cells arr e (0, 0)) := fun b hb ⟨j, hj, hbj⟩ => by
        obtain ⟨_, arr, e, hh⟩ := hM.lo j hj b hbj
        exact ⟨arr, e, by rw [hoth b hb]; exact hh⟩
      obtain ⟨hM', hp⟩ := hM.move (O' := Vm.put (dels σ.objs tm.2) id (.row own app sz (rows.set i (cs.take off ++ tm.1 ++ cs.drop (off + ns.length))))) (w' := w')
        id (G.φ id) (G.h id ++ (if own then FA ++ (F1 ++ Fm ++ F3) ++ FB else [])) tm.2
        (fun j hj hn => by rw [get_put_other _ _ _ _ hj, (get_dels _ _ _).2 hn]) (fun j hj hn => by rw [get_put_other _ _ _ _ hj, (get_dels _ _ _).1 hn]) (fun _ => rfl)
        (by rw [← hw']; rfl) (by rw [← hw']; rfl) (by rw [← hw']; rfl) (by rw [← hw']; simp [World.setRow])
        (fun b _ hn => hoth b (fun e => hn id hlv (.inr rfl) (by rw [hhd, e]; simp)))
        (by
          cases own with
          | false => simp [hhd]
          | true =>
            simp only [if_true]
            simp only [if_true] at h7
            obtain ⟨m5, m6⟩ := m3 rfl
            have hnd2 := hM.nodup id hlv
            rw [h7, hF', hFi] at hnd2
            have e1 : G.h id ++ (FA ++ (F1 ++ F2 ++ F3) ++ FB) = (G.h id ++ FA ++ F1) ++ F2 ++ (F3 ++ FB) := by simp
            have e2 : G.h id ++ (FA ++ (F1 ++ Fm ++ F3) ++ FB) = (G.h id ++ FA ++ F1) ++ Fm ++ (F3 ++ FB) := by simp
            rw [e1] at hnd2
            rw [e2]
            refine nodup_swap hnd2 m5 (fun b hb hbm => ?_)
            obtain ⟨j, hj, hbj⟩ := m6 b hbm
            refine hM.disj j id (m2 j hj) hlv (fun e => hid (e ▸ hj)) b hbj ?_
            rw [h7, hF', hFi]
            simp only [List.mem_append] at hb ⊢
            rcases hb with ((hb | hb) | hb) | (hb | hb) <;> simp [hb])
        (by
          intro b hbb
          rcases List.mem_append.1 hbb with hb1 | hb1
          · rw [hhd] at hb1
            simp at hb1
            subst hb1
            exact ⟨.inr ⟨id, hlv, .inr rfl, hM.hds id hlv b (by rw [hhd]; simp)⟩, hgcell⟩
          · cases own with
            | false => simp at hb1
            | true =>
              simp only [if_true] at hb1 h7
              rcases hFsub b hb1 with hb2 | hb2
              · have hbΦ : b ∈ G.Φ id := by rw [h7]; simp [hb2]
                exact ⟨.inr ⟨id, hlv, .inr rfl, hbΦ⟩, hold b (hFg b hb2) ⟨id, hlv, hbΦ⟩⟩
              · obtain ⟨j, hj, hbj⟩ := (m3 rfl).2 b hb2
                exact ⟨.inr ⟨j, m2 j hj, .inl hj, hbj⟩, hold b (hmg b hb2) ⟨j, m2 j hj, hbj⟩⟩)
        (fun b hbb => by rw [← hHd] at hbb; exact ⟨by simp [hbb], .inr ⟨id, hlv, hbb⟩⟩)
        (fun o ho p => by
          rw [get_put_same] at ho
          injection ho with ho
          subst ho
          refine ⟨_, _, hrows, hcss', ?_, ?_⟩
          · cases app with
            | true => simp only [if_true, Gh.set, List.length_set] at hrowNew ⊢; exact ⟨hrowNew, trivial⟩
            | false => simp only [if_true, Bool.false_eq_true, if_false, Gh.set, List.length_set] at hrowNew ⊢; exact ⟨hrowNew, .inl trivial⟩
          · cases own with
            | true => simp only [if_true, Gh.set, hHd]
            | false =>
              simp only [Bool.false_eq_true, if_false, Gh.set, if_true, List.append_nil, hHd, true_and]
              simp only [Bool.false_eq_true, if_false] at h7
              intro j hj b hb hbj
              have hjl : Lv σ.objs G j ∧ j ∉ tm.2 := by
                obtain ⟨ha, o', ho'⟩ := hj
                by_cases e : j = id
                · subst e; exact ⟨hlv, hid⟩
                · rw [get_put_other _ _ _ _ e] at ho'
                  by_cases hjm : j ∈ tm.2
                  · rw [(get_dels _ _ _).1 hjm] at ho'; cases ho'
                  · rw [(get_dels _ _ _).2 hjm] at ho'
                    rcases ha with ha | ha
                    · exact ⟨⟨ha, o', ho'⟩, hjm⟩
                    · exact absurd ha e
              have hbj' : b ∈ G.h j := by
                by_cases e : j = id
                · subst e; rw [hHd]; simpa using hbj
                · simpa [e] using hbj
              rcases hFsub b hb with hb2 | hb2
              · exact h7.2 j hjl.1 b hb2 hbj'
              · exact m4 b hb2 j hjl.1 hjl.2 hbj')
      refine wp_skip_op (w' := w') ?_ (hK _ _ _ hM' hp ?_ (fun j hj => ?_))
      · simp [execOp, Instr.storeAt, Instr.sureAddr, h3', hrun]
      · simp only [AV.rep]
      · rcases hj with hj | hj
        · exact hfr j hj
        · subst hj; exact hw _ _ eo
    · exact h.elim
  · exact h.elim
end
end Go.Vm

namespace Go.Vm
open Go.RowKit

theorem scal_none {w : World} {x : T} {v : Value} {F : List Nat} (h : isScal x = true) (hr : x.rep w v F) : F = [] := by
  cases x <;> simp [isScal] at h <;> exact hr.2
theorem scals_none {w : World} : ∀ {xs : List T} {vs : List Value} {F : List Nat}, (∀ x ∈ xs, isScal x = true) → repCells w xs vs F → F = []
  | [], vs, F, _, h => by simp only [repCells] at h; exact h.2
  | x :: xs, vs, F, hs, h => by
    simp only [repCells] at h
    obtain ⟨v, cs', F1, F2, _, rfl, h3, h4⟩ := h
    rw [scal_none (hs x (by simp)) h3, scals_none (fun y hy => hs y (by simp [hy])) h4]
    rfl
theorem scalss_none {w : World} : ∀ {xs : List (List T)} {vs : List (List Value)} {F : List Nat}, (∀ r ∈ xs, ∀ x ∈ r, isScal x = true) → repRows w xs vs F → F = []
  | [], vs, F, _, h => by simp only [repRows] at h; exact h.2
  | x :: xs, vs, F, hs, h => by
    simp only [repRows] at h
    obtain ⟨v, cs', F1, F2, _, rfl, h3, h4⟩ := h
    rw [scals_none (hs x (by simp)) h3, scalss_none (fun y hy => hs y (by simp [hy])) h4]
    rfl
theorem repRows_one {w : World} : ∀ {xs : List (List T)} {vs : List (List Value)} {F : List Nat}, repRows w xs vs F → ∀ v ∈ vs.flatten, v.oneCell' = true
  | [], vs, F, h, v, hv => by simp only [repRows] at h; simp [h.1] at hv
  | x :: xs, vs, F, h, v, hv => by
    simp only [repRows] at h
    obtain ⟨cs, css', F1, F2, rfl, rfl, h3, h4⟩ := h
    rw [List.flatten_cons] at hv
    rcases List.mem_append.1 hv with hv | hv
    · exact repCells_one h3 v hv
    · exact repRows_one h4 v hv
theorem repRows_row_len {w : World} {rows : List (List T)} {css : List (List Value)} {F : List Nat} {n : Nat} (h : repRows w rows css F) (hl : ∀ r ∈ rows, r.length = n) : ∀ cs ∈ css, cs.length = n := by
  intro cs hcs
  obtain ⟨i, hi, he⟩ := List.getElem_of_mem hcs
  have hi' : i < rows.length := by rw [← repRows_length h]; exact hi
  obtain ⟨cs', F1, h1, h2, _⟩ := repRows_get h i rows[i] (List.getElem?_eq_getElem hi')
  rw [List.getElem?_eq_getElem hi] at h1
  injection h1 with h1
  rw [← he, h1, repCells_length h2]
  exact hl _ (List.getElem_mem hi')

section
variable {P : Program} {E : Nat → Option TI} {vl : Operand → Option AV} {σ : St}
variable {dst : Option Tmp} {type : TypeId} {pos : String} {after : Array Edge} {guard : Option (Nat × Bool)} {K : AV → St → Prop}

/-- What is appended: a slice value that shows 'rows'; 'J' are the objects that go with it. -/
structure Src (O : List (Nat × Ob)) (G : Gh) (w : World) (u : Value) (rows : List (List T)) (sz : Nat) (J : List Nat) (own : Bool) where
  css : List (List Value)
  F : List Nat
  rep : repRows w rows css F
  len : ∀ cs ∈ css, cs.length = sz
  val : ∃ A c, u = .slice A rows.length c ∧ (0 < rows.length → ∃ ad, A = some ad ∧ ∀ (i : Nat) cs, css[i]? = some cs → ∀ (j : Nat) v, cs[j]? = some v → w.cell? (ad.add (i * sz + j)) = some v)
  live : ∀ i ∈ J, Lv O G i
  owns : own = true → F.Nodup ∧ ∀ b ∈ F, ∃ i, i ∈ J ∧ b ∈ G.Φ i
  imm : ∀ b ∈ F, ∀ j, Lv O G j → j ∉ J → b ∉ G.h j

/-- As 'GoesE'; and what the objects of 'J' held is as it was, and nobody writes it any more. -/
def GoesX (P : Program) (vl : Operand → Option AV) (o : Oper) (σ : St) (J : List Nat) (σ' : St) (av : AV) : Prop :=
  ∀ (w0 : Base) G w a (Kc : Act → World → Prop) (Q : Exit → Act → World → Prop), Mem w0 σ.objs G w → OpsRep vl o.op σ.objs G w a → (∀ j, G.A j → j < σ.next) →
    (∀ G' v w', Mem w0 σ'.objs G' w' → Pres σ.objs G w σ'.objs G' w' → av.rep σ'.objs G' w' v → (∀ j, G'.A j → j < σ'.next) →
      (∀ j ∈ J, ∀ q ∈ G.Φ j, w'.heap[q]? = w.heap[q]? ∧ ∀ i, Lv σ'.objs G' i → q ∉ G'.h i) → Kc (a.put o.dst v) w') → o.wp P a w Kc Q
theorem GoesX.goes {o : Oper} {σ' : St} {J : List Nat} {av : AV} (h : GoesX P vl o σ J σ' av) : GoesE P vl o σ σ' av := fun w0 G w a Kc Q hM hops hfr hK =>
  h w0 G w a Kc Q hM hops hfr (fun G' v w' h1 h2 h3 h4 _ => hK G' v w' h1 h2 h3 h4)

theorem append_goes {t e : Nat} {ti te : TI} (hE : TOk P E) (he : E t = some ti) (hk : ti.k = .sl e) (hee : E e = some te) {x y : Operand} {vx : AV} {b : Bool × List (List T) × Option Nat × List Nat}
    (hvx : vl x = some vx) (hb : baseOf σ.objs vx = some b) (hbsz : b.2.2.1 = none ∨ b.2.2.1 = some te.size) {rows : List (List T)} {J : List Nat} {own : Bool} (hown : own = true → b.1 = true)
    (hnd : (b.2.2.2 ++ J).Nodup) (hbd : (b.2.1.length + rows.length) * te.bytes ≤ 140737488355328 ∧ b.2.1.length + rows.length ≤ 140737488355328) (_hw : σ.wf)
    (hsrc : ∀ (w0 : Base) G w a, Mem w0 σ.objs G w → OpsRep vl (Op.call { callee := .builtin .append, args := ⟨[x, y]⟩, argTypes := ⟨[t, t]⟩ }) σ.objs G w a → Nonempty (Src σ.objs G w (a.eval y) rows te.size J own)) :
    GoesX P vl ⟨dst, .call { callee := .builtin .append, args := ⟨[x, y]⟩, argTypes := ⟨[t, t]⟩ }, type, pos, after, guard⟩ σ J
      ⟨σ.env, (σ.next, .row own true te.size (b.2.1 ++ rows)) :: dels σ.objs (b.2.2.2 ++ J), σ.next + 1⟩ (.c (.ref σ.next)) := by
  intro w0 G w a Kc Q hM hops hfr hK
  have hx : x ∈ (Op.call { callee := .builtin .append, args := ⟨[x, y]⟩, argTypes := ⟨[t, t]⟩ }).operands := by simp [Op.operands, Call.operands]
  obtain ⟨⟨scss, sF, srep, slen, sval, slive, sowns, simm⟩⟩ := hsrc w0 G w a hM hops
  obtain ⟨A, c, hu, hcells⟩ := sval
  obtain ⟨d, hd_, _, hkk⟩ := (hE t ti he).desc
  rw [hk] at hkk
  simp only [TKok] at hkk
  subst hkk
  obtain ⟨i, z, hi, hs, hbs, hz, hzc, hzs⟩ := (hE e te hee).info
  obtain ⟨hnd1, hnd2, hnd3⟩ := List.nodup_append.1 hnd
  -- the base
  have hbase : ∃ css F', repRows w b.2.1 css F' ∧ (∀ cs ∈ css, cs.length = te.size) ∧ RowOwn w (a.eval x) b.2.1.length te.size css.flatten ∧ (∀ i ∈ b.2.2.2, Lv σ.objs G i) ∧
      (∀ q ∈ hd (a.eval x), ∃ i, i ∈ b.2.2.2 ∧ q ∈ G.h i) ∧ (b.1 = true → (hd (a.eval x) ++ F').Nodup ∧ ∀ q ∈ F', ∃ i, i ∈ b.2.2.2 ∧ q ∈ G.Φ i) ∧ Imm σ.objs G F' := by
    have hr := hops x hx _ hvx
    unfold baseOf at hb
    split at hb
    · injection hb with hb
      subst hb
      have hB : a.eval x = .slice none 0 0 := hr
      rw [hB]
      exact ⟨[], [], by simp [repRows], by simp, ⟨by simp, .inl ⟨none, rfl, rfl⟩⟩, by simp, by simp [hd], by simp [hd], fun _ _ q hq => by simp at hq⟩
    · injection hb with hb
      subst hb
      obtain ⟨B, hB⟩ := hr
      rw [hB]
      refine ⟨[], [], by simp [repRows], by simp, ⟨by simp, .inl ⟨B, rfl, rfl⟩⟩, by simp, ?_, ?_, fun _ _ q hq => by simp at hq⟩
      · cases B <;> simp [hd]
      · cases B <;> simp [hd]
    · rename_i id
      split at hb
      · rename_i bo sz brows hg
        injection hb with hb
        subst hb
        obtain ⟨h1, h2, _⟩ := hr
        have hlv : Lv σ.objs G id := ⟨h1, _, hg⟩
        obtain ⟨_, F1, _, _, _, him⟩ := hM.row h1 hg
        obtain ⟨css, F', h3, h4, h5, h6⟩ := hM.obs id _ h1 hg
        simp only [if_true] at h5
        have hsz : sz = te.size := by rcases hbsz with h | h <;> simp_all
        subst hsz
        rw [h2]
        refine ⟨css, F', h3, h4, h5.1, by simpa using hlv, fun q hq => ⟨id, by simp, by rw [h5.2]; exact hq⟩, fun ho => ?_, ?_⟩
        · have ho' : bo = true := ho
          subst ho'
          simp only [if_true] at h6
          have := hM.nodup id hlv
          rw [h6, h5.2] at this
          exact ⟨this, fun q hq => ⟨id, by simp, by rw [h6]; simp [hq]⟩⟩
        · cases bo with
          | true =>
            simp only [if_true] at h6
            intro j hj q hq hqj
            by_cases e : j = id
            · subst e
              have := hM.nodup j hj
              rw [h6] at this
              exact (List.nodup_append.1 this).2.2 q hqj q hq rfl
            · exact hM.disj id j hlv hj (fun e' => e e'.symm) q (by rw [h6]; simp [hq]) (hM.hds j hj q hqj)
          | false => simp only [Bool.false_eq_true, if_false] at h6; exact h6.2
      · cases hb
    · cases hb
  obtain ⟨css, F', hr1, hr2, hr3, hr4, hr5, hr6, hr7⟩ := hbase
  -- the run
  have hnl : scss.flatten.length = rows.length * i.size := by rw [flat_length slen, repRows_length srep, hs]
  obtain ⟨v', w', hrun, hown', hgrow, hwhere⟩ := run_append (P := P) w t type e i z hd_ hi hz (by rw [hzs, hs]) (a.eval x) b.2.1.length css.flatten (by rw [hs]; exact hr3) A rows.length c scss.flatten hnl
    (fun hm => by
      obtain ⟨ad, hA, hg⟩ := hcells hm
      exact ⟨ad, hA, grid_flat slen hg⟩) (repRows_one srep) (by rw [hbs]; exact hbd.1) hbd.2
  rw [hs] at hown'
  have hhdle : ∀ q ∈ hd (a.eval x), q < w.heap.size := fun q hq => by
    obtain ⟨j, hj, hqj⟩ := hr5 q hq
    obtain ⟨_, arr, e', hh⟩ := hM.lo j (hr4 j hj) q (hM.hds j (hr4 j hj) q hqj)
    exact (Array.getElem?_eq_some_iff.1 hh).1
  have hsame : ∀ q, q < w.heap.size → q ∉ hd (a.eval x) → w'.heap[q]? = w.heap[q]? := fun q hq hn => hgrow.block q hq (fun e' => by
    cases hx' : hd (a.eval x) with
    | nil => rw [hx'] at e'; simp at e'
    | cons p ps => rw [hx'] at e' hn; simp at e'; subst e'; simp at hn)
  have hFlt : ∀ q ∈ F', q < w.heap.size := repRows_lt _ _ _ hr1
  have hSlt : ∀ q ∈ sF, q < w.heap.size := repRows_lt _ _ _ srep
  have hFx : ∀ q ∈ F', q ∉ hd (a.eval x) := fun q hq hqx => by
    obtain ⟨j, hj, hqj⟩ := hr5 q hqx
    exact hr7 j (hr4 j hj) q hq hqj
  have hSx : ∀ q ∈ sF, q ∉ hd (a.eval x) := fun q hq hqx => by
    obtain ⟨j, hj, hqj⟩ := hr5 q hqx
    exact simm q hq j (hr4 j hj) (fun hJ => hnd3 j hj j hJ rfl) hqj
  have hrows : repRows w' (b.2.1 ++ rows) (css ++ scss) (F' ++ sF) :=
    repRows_append (repRows_keep _ _ _ hr1 (fun q hq => hsame q (hFlt q hq) (hFx q hq))) (repRows_keep _ _ _ srep (fun q hq => hsame q (hSlt q hq) (hSx q hq)))
  have hlens : ∀ cs ∈ css ++ scss, cs.length = te.size := fun cs hcs => by
    rcases List.mem_append.1 hcs with h | h
    · exact hr2 cs h
    · exact slen cs h
  have hrowOwn : RowOwn w' v' (b.2.1 ++ rows).length te.size (css ++ scss).flatten := by
    rw [List.length_append, List.flatten_append]
    exact hown'
  have hv'cell : ∀ q ∈ hd v', ∃ arr e, w'.heap[q]? = some (.cells arr e (0, 0)) := fun q hq => by
    rcases hown'.2 with ⟨B, hB, _⟩ | ⟨g, o, cap, cur, el, hv, hcap, hg, _⟩
    · rw [hB] at hq; cases B <;> simp [hd] at hq
    · rw [hv] at hq
      cases cap with
      | zero => omega
      | succ cap => simp [hd] at hq; subst hq; exact ⟨_, _, hg⟩
  have hv'from : ∀ q ∈ hd v', q ∈ hd (a.eval x) ∨ q = w.heap.size := fun q hq => by
    rcases hwhere with h | h
    · exact .inl (by rw [← h]; exact hq)
    · rw [h.1] at hq; exact .inr (by simpa using hq)
  have hnA : ¬ G.A σ.next := fun h => Nat.lt_irrefl _ (hfr _ h)
  have hne : ∀ j, Lv σ.objs G j → j ≠ σ.next := fun j hj e' => hnA (e' ▸ hj.1)
  have hS : ∀ j ∈ b.2.2.2 ++ J, Lv σ.objs G j := fun j hj => by
    rcases List.mem_append.1 hj with h | h
    · exact hr4 j h
    · exact slive j h
  have holdcell : ∀ q, q < w.heap.size → q ∉ hd (a.eval x) → (∃ j, Lv σ.objs G j ∧ q ∈ G.Φ j) → ∃ arr e, w'.heap[q]? = some (.cells arr e (0, 0)) := fun q hq hn ⟨j, hj, hqj⟩ => by
    obtain ⟨_, arr, e', hh⟩ := hM.lo j hj q hqj
    exact ⟨arr, e', by rw [hsame q hq hn]; exact hh⟩
  obtain ⟨hM', hp⟩ := hM.move (O' := (σ.next, .row own true te.size (b.2.1 ++ rows)) :: dels σ.objs (b.2.2.2 ++ J)) (w' := w') σ.next v' (hd v' ++ (if own then F' ++ sF else [])) (b.2.2.2 ++ J)
    (fun j hj hn => by rw [get_cons_other _ _ _ _ hj, (get_dels _ _ _).2 hn]) (fun j hj hn => by rw [get_cons_other _ _ _ _ hj, (get_dels _ _ _).1 hn]) (fun h => absurd h hnA)
    hgrow.os hgrow.tape hgrow.output hgrow.size
    (fun q hq hn => hsame q hq (fun hqx => by
      obtain ⟨j, hj, hqj⟩ := hr5 q hqx
      exact hn j (hr4 j hj) (.inl (by simp [hj])) hqj))
    (by
      have hv1 : (hd v').Nodup := by
        rcases hown'.2 with ⟨B, hB, _⟩ | ⟨g, o, cap, cur, el, hv, _⟩
        · rw [hB]; cases B <;> simp [hd]
        · rw [hv]; cases cap <;> simp [hd]
      cases hown_ : own with
      | false => simpa using hv1
      | true =>
        simp only [if_true]
        obtain ⟨h1, h2⟩ := hr6 (hown hown_)
        obtain ⟨h3, h4⟩ := sowns hown_
        obtain ⟨h5, h6, h7⟩ := List.nodup_append.1 h1
        refine List.nodup_append.2 ⟨hv1, List.nodup_append.2 ⟨h6, h3, fun q hq q' hq' e' => ?_⟩, fun q hq q' hq' e' => ?_⟩
        · subst e'
          obtain ⟨j, hj, hqj⟩ := h2 q hq
          obtain ⟨j', hj', hqj'⟩ := h4 q hq'
          exact hM.disj j j' (hr4 j hj) (slive j' hj') (hnd3 j hj j' hj') q hqj hqj'
        · subst e'
          rcases hv'from q hq with h | h
          · rcases List.mem_append.1 hq' with hq' | hq'
            · exact h7 q h q hq' rfl
            · exact hSx q hq' h
          · rcases List.mem_append.1 hq' with hq' | hq'
            · have := hFlt q hq'; omega
            · have := hSlt q hq'; omega)
    (fun q hq => by
      rcases List.mem_append.1 hq with hq | hq
      · refine ⟨?_, hv'cell q hq⟩
        rcases hv'from q hq with h | h
        · obtain ⟨j, hj, hqj⟩ := hr5 q h
          exact .inr ⟨j, hr4 j hj, .inl (by simp [hj]), hM.hds j (hr4 j hj) q hqj⟩
        · exact .inl (by omega)
      · cases hown_ : own with
        | false => simp [hown_] at hq
        | true =>
          simp only [hown_, if_true] at hq
          rcases List.mem_append.1 hq with hq | hq
          · obtain ⟨j, hj, hqj⟩ := (hr6 (hown hown_)).2 q hq
            exact ⟨.inr ⟨j, hr4 j hj, .inl (by simp [hj]), hqj⟩, holdcell q (hFlt q hq) (hFx q hq) ⟨j, hr4 j hj, hqj⟩⟩
          · obtain ⟨j, hj, hqj⟩ := (sowns hown_).2 q hq
            exact ⟨.inr ⟨j, slive j hj, .inl (by simp [hj]), hqj⟩, holdcell q (hSlt q hq) (hSx q hq) ⟨j, slive j hj, hqj⟩⟩)
    (fun q hq => by
      refine ⟨by simp [hq], ?_⟩
      rcases hv'from q hq with h | h
      · obtain ⟨j, hj, hqj⟩ := hr5 q h
        exact .inr ⟨j, hr4 j hj, hqj⟩
      · exact .inl (by omega))
    (fun o ho p => by
      rw [get_cons_same] at ho
      injection ho with ho
      subst ho
      refine ⟨_, _, hrows, hlens, ?_, ?_⟩
      · simp only [if_true, Gh.set]; exact ⟨hrowOwn, trivial⟩
      · cases hown_ : own with
        | true => simp only [if_true, Gh.set]
        | false =>
          simp only [Bool.false_eq_true, if_false, Gh.set, if_true, List.append_nil, true_and]
          intro j hj q hq hqj
          have hqlt : q < w.heap.size := by
            rcases List.mem_append.1 hq with h | h
            · exact hFlt q h
            · exact hSlt q h
          by_cases ej : j = σ.next
          · subst ej
            have hqv : q ∈ hd v' := by simpa using hqj
            rcases hv'from q hqv with h | h
            · rcases List.mem_append.1 hq with h2 | h2
              · exact hFx q h2 h
              · exact hSx q h2 h
            · omega
          · obtain ⟨ha, o', ho'⟩ := hj
            have ha' : G.A j := by
              rcases ha with h | h
              · exact h
              · exact absurd h ej
            rw [get_cons_other _ _ _ _ ej] at ho'
            by_cases hjS : j ∈ b.2.2.2 ++ J
            · rw [(get_dels _ _ _).1 hjS] at ho'; cases ho'
            · rw [(get_dels _ _ _).2 hjS] at ho'
              have hqj' : q ∈ G.h j := by simpa [ej] using hqj
              rcases List.mem_append.1 hq with h2 | h2
              · exact hr7 j ⟨ha', o', ho'⟩ q h2 hqj'
              · exact simm q h2 j ⟨ha', o', ho'⟩ (fun h => hjS (by simp [h])) hqj')
  refine wp_value (w' := w') (v := v') ?_ (hK _ v' w' hM' hp ?_ (fun j hj => ?_) (fun j hj q hq => ?_))
  · have hrun' := hrun
    rw [← hu] at hrun'
    simp only [execOp, resolve, invoke, builtin, Sem.run_bind, Sem.run_pure, Result.andThen_ok, List.map_toArray, List.map_cons, List.map_nil]
    rw [hrun']
    rfl
  · simp only [AV.rep]
    exact ⟨.inr rfl, by simp [Gh.set], hrowOwn.one⟩
  · rcases hj with hj | hj
    · have := hfr j hj; simp only; omega
    · subst hj; simp
  · have hlj := slive j hj
    have hqlt : q < w.heap.size := by obtain ⟨_, arr, e', hh⟩ := hM.lo j hlj q hq; exact (Array.getElem?_eq_some_iff.1 hh).1
    have hqx : q ∉ hd (a.eval x) := fun h => by
      obtain ⟨k, hk, hqk⟩ := hr5 q h
      exact hM.disj j k hlj (hr4 k hk) (fun e' => hnd3 k hk j hj e'.symm) q hq (hM.hds k (hr4 k hk) q hqk)
    refine ⟨hsame q hqlt hqx, fun i hi hqi => ?_⟩
    by_cases ei : i = σ.next
    · subst ei
      have hqv : q ∈ hd v' := by simpa [Gh.set] using hqi
      rcases hv'from q hqv with h | h
      · exact hqx h
      · omega
    · obtain ⟨ha, o', ho'⟩ := hi
      have ha' : G.A i := by
        rcases ha with h | h
        · exact h
        · exact absurd h ei
      rw [get_cons_other _ _ _ _ ei] at ho'
      by_cases hiS : i ∈ b.2.2.2 ++ J
      · rw [(get_dels _ _ _).1 hiS] at ho'; cases ho'
      · rw [(get_dels _ _ _).2 hiS] at ho'
        have hqi' : q ∈ G.h i := by simpa [Gh.set, ei] using hqi
        exact hM.disj j i hlj ⟨ha', o', ho'⟩ (fun e' => hiS (by subst e'; simp [hj])) q hq (hM.hds i ⟨ha', o', ho'⟩ q hqi')

/-- Rows that have moved, still seen. -/
theorem Mem.vw {O : List (Nat × Ob)} {G : Gh} {w : World} {w0 : Base} (hM : Mem w0 O G w) {id : Nat} {rows : List (List T)} {F : List Nat} (hA : G.A id) (hO : get O id = none) (hr : (T.lst rows).rep w (G.φ id) F) (him : Imm O G F) :
    ∃ G', (∀ j, G'.A j ↔ G.A j) ∧ Mem w0 ((id, .vw rows) :: O) G' w ∧ Pres O G w ((id, .vw rows) :: O) G' w := by
  let G' : Gh := ⟨G.A, G.φ, fun j => if j = id then [] else G.Φ j, fun j => if j = id then [] else G.h j, G.b, G.pin⟩
  have hne : ∀ j, Lv O G j → j ≠ id := fun j hj e => by subst e; obtain ⟨o, ho⟩ := hj.2; rw [hO] at ho; cases ho
  refine ⟨G', fun j => Iff.rfl, Mem.step hM (Lv O G) (fun j => j = id) (fun j h => ⟨h, rfl⟩) ⟨rfl, rfl⟩ (fun j h => ⟨h, get_cons_other _ _ _ _ (hne j h), by simp [G', hne j h]⟩)
    (fun j h => ?_) rfl rfl rfl (Nat.le_refl _) (fun b _ _ => rfl) (fun j hx => ?_) (fun i j hi hj hn => absurd (hi.trans hj.symm) hn) (fun j hx b hb => ?_) (fun j hx b hb => ?_) (fun j o hx _ hg p => ?_)⟩
  · by_cases e : j = id
    · exact .inr e
    · obtain ⟨ha, o, ho⟩ := h
      rw [get_cons_other _ _ _ _ e] at ho
      exact .inl ⟨ha, o, ho⟩
  · subst hx; simp [G']
  · subst hx; simp [G'] at hb
  · subst hx; simp [G'] at hb
  · subst hx
    rw [get_cons_same] at hg
    injection hg with hg
    subst hg
    exact ⟨⟨F, hr, him.pres (T.rep_lt _ _ F hr) p⟩, by simp [G'], by simp [G']⟩
theorem GoesX.vw {o : Oper} {σ' : St} {J : List Nat} {av : AV} (h : GoesX P vl o σ J σ' av) {k : Nat} {app : Bool} {sz : Nat} {rows : List (List T)} (hk : k ∈ J) (hg : get σ.objs k = some (.row true app sz rows)) (hg' : get σ'.objs k = none)
    (hA : ∀ (w0 : Base) G w a, Mem w0 σ.objs G w → OpsRep vl o.op σ.objs G w a → G.A k) : GoesE P vl o σ ⟨σ'.env, (k, .vw rows) :: σ'.objs, σ'.next⟩ av := fun w0 G w a Kc Q hM hops hfr hK => by
  refine h w0 G w a Kc Q hM hops hfr (fun G' v w' h1 h2 h3 h4 h5 => ?_)
  have hak := hA w0 G w a hM hops
  have hlv : Lv σ.objs G k := ⟨hak, _, hg⟩
  have hφ := (h2.A k hak).2
  obtain ⟨css, F', r1, r2, r3, r4⟩ := hM.obs k _ hak hg
  simp only [if_true] at r4
  obtain ⟨_, _, _, _, hweak0, _⟩ := hM.row hak hg
  have hT : ∃ F, (T.lst rows).rep w (G.φ k) F ∧ ∀ q ∈ F, q ∈ G.Φ k := by
    have hweak : RowWeak w (G.φ k) rows.length sz css := by
      cases app with
      | true => simp only [if_true] at r3; exact r3.1.weak r2
      | false => simp only [Bool.false_eq_true, if_false] at r3; exact r3.1
    cases rows with
    | nil =>
      obtain ⟨A, c, e1, e2, _⟩ := hweak
      exact ⟨[], by simp only [T.rep]; exact ⟨A, c, e1, e2, .inl ⟨trivial, trivial⟩⟩, by simp⟩
    | cons r rs =>
      obtain ⟨F, e1, e2⟩ := hweak.rep r1 r2
      have hhd : G.h k = hd (G.φ k) := by
        cases app with
        | true => simp only [if_true] at r3; exact r3.2
        | false =>
          simp only [Bool.false_eq_true, if_false] at r3
          rcases r3.2 with q5 | ⟨q5, _⟩
          · exact q5
          · cases q5
      refine ⟨F, e1, fun q hq => ?_⟩
      rw [r4, hhd]
      rcases e2 with e2 | e2
      · rw [← e2]; exact hq
      · rw [e2] at hq; cases hq
  obtain ⟨F, hT1, hT2⟩ := hT
  obtain ⟨G2, hG2, hM2, hp2⟩ := h1.vw (id := k) (rows := rows) (F := F) (h2.A k hak).1 hg' (by rw [hφ]; exact T.rep_keep _ _ F hT1 (fun q hq => (h5 k hk q (hT2 q hq)).1)) (fun i hi q hq => (h5 k hk q (hT2 q hq)).2 i hi)
  exact hK G2 v w' hM2 (h2.trans hp2) (av.rep_pres hp2 v h3) (fun j hj => h4 j ((hG2 j).1 hj))

/-- What a slice value that is read shows. -/
theorem src_of_T {O : List (Nat × Ob)} {G : Gh} {w : World} {u : Value} {rows : List (List T)} {F : List Nat} {sz : Nat} {sc : Bool} (h : (T.lst rows).rep w u F) (him : Imm O G F) (hl : ∀ r ∈ rows, r.length = sz) (hsc : sc = true → ∀ r ∈ rows, ∀ x ∈ r, isScal x = true) :
    Nonempty (Src O G w u rows sz [] sc) := by
  simp only [T.rep] at h
  obtain ⟨A, c, h1, h2, h3⟩ := h
  rcases h3 with ⟨rfl, rfl⟩ | ⟨ad, css, F', sz', hne, rfl, hlt, rfl, hr, hg⟩
  · exact ⟨⟨[], [], by simp [repRows], by simp, ⟨A, c, h1, fun h => absurd h (by simp)⟩, by simp, fun _ => by simp, by simp⟩⟩
  · have hlen := repRows_row_len hr hl
    refine ⟨⟨css, F', hr, hlen, ⟨_, c, h1, fun _ => ⟨ad, rfl, fun i cs hi j v hv => ?_⟩⟩, by simp, fun ho => ?_, fun b hb j hj _ => him j hj b (by simp [hb])⟩⟩
    · have := hg i cs hi
      have e : sz' = sz := by rw [← this.1]; exact hlen cs (List.mem_of_getElem? hi)
      rw [← e]
      exact this.2 j v hv
    · rw [scalss_none (hsc ho) hr]; simp
theorem src_of_row {O : List (Nat × Ob)} {G : Gh} {w : World} {w0 : Base} (hM : Mem w0 O G w) {id : Nat} {o app : Bool} {sz : Nat} {rows : List (List T)} (ha : G.A id) (hg : get O id = some (.row o app sz rows)) {sc : Bool} (hsc : sc = true → ∀ r ∈ rows, ∀ x ∈ r, isScal x = true) :
    Nonempty (Src O G w (G.φ id) rows sz [] sc) := by
  obtain ⟨css, F', h1, h2, h3, h4⟩ := hM.row ha hg
  obtain ⟨A, c, h5, h6, h7⟩ := h3
  refine ⟨⟨css, F', h1, h2, ⟨A, c, h5, fun h => ?_⟩, by simp, fun ho => ?_, fun b hb j hj _ => h4 j hj b hb⟩⟩
  · obtain ⟨ad, h8, _, h9⟩ := h7 h
    exact ⟨ad, h8, h9⟩
  · rw [scalss_none (hsc ho) h1]; simp

theorem sound_append (hE : TOk P E) (hw : σ.wf) {args : Array Operand} {argTypes : Array TypeId} (h : opE E vl (.call { callee := .builtin .append, args, argTypes }) σ K) :
    SoundE P vl ⟨dst, .call { callee := .builtin .append, args, argTypes }, type, pos, after, guard⟩ σ K := by
  obtain ⟨args⟩ := args
  obtain ⟨argTypes⟩ := argTypes
  simp only [opE] at h
  split at h
  · rename_i x y t t'
    obtain ⟨rfl, h⟩ := h
    have h' := need_some h; clear h
    obtain ⟨ti, e, h⟩ := h'
    generalize hk : ti.k = k0 at h
    cases k0 <;> try exact h.elim
    rename_i el
    have h' := need_some h; clear h
    obtain ⟨te, ee, h⟩ := h'
    have h' := need_some h; clear h
    obtain ⟨vx, evx, h⟩ := h'
    have h' := need_some h; clear h
    obtain ⟨vy, evy, h⟩ := h'
    have h' := need_some h; clear h
    obtain ⟨b, eb, hbsz, h⟩ := h'
    have hy : y ∈ (Op.call { callee := .builtin .append, args := ⟨[x, y]⟩, argTypes := ⟨[t, t]⟩ }).operands := by simp [Op.operands, Call.operands]
    have hbnd : b.2.2.2.Nodup := by
      unfold baseOf at eb
      split at eb
      · injection eb with eb; subst eb; simp
      · injection eb with eb; subst eb; simp
      · split at eb
        · injection eb with eb; subst eb; simp
        · cases eb
      · cases eb
    have hwf : ∀ (o : Ob) (S : List Nat), St.wf ⟨σ.env, (σ.next, o) :: dels σ.objs S, σ.next + 1⟩ := by
      intro o S id ob hob
      simp only at hob ⊢
      by_cases e : id = σ.next
      · omega
      · rw [get_cons_other _ _ _ _ e] at hob
        by_cases hs : id ∈ S
        · rw [(get_dels _ _ _).1 hs] at hob; cases hob
        · rw [(get_dels _ _ _).2 hs] at hob
          have := hw id ob hob
          omega
    split at h
    · rename_i j
      have h' := need_some h; clear h
      obtain ⟨ob, eo, h⟩ := h'
      split at h
      · rename_i sz crows
        rcases h with h | h
        · skip
          have h' := need_some h; clear h
          obtain ⟨tm, etm, ⟨hnd, hsz⟩, hbd, h⟩ := h'
          subst hsz
          have hnd' := nodupB_iff hnd
          have hgo : GoesX P vl ⟨dst, .call { callee := .builtin .append, args := ⟨[x, y]⟩, argTypes := ⟨[t, t]⟩ }, type, pos, after, guard⟩ σ (j :: tm.2) ⟨σ.env, (σ.next, .row b.1 true te.size (b.2.1 ++ tm.1)) :: dels σ.objs (b.2.2.2 ++ j :: tm.2), σ.next + 1⟩ (.c (.ref σ.next)) := by
           refine append_goes (J := j :: tm.2) (own := b.1) hE e hk ee evx eb hbsz (fun h => h) hnd' hbd hw (fun w0 G w a hM hops => ?_)
           obtain ⟨h1, h2, _⟩ := hops y hy _ evy
           obtain ⟨css, h3, h4, h5, h6, _⟩ := hM.obs j _ h1 eo
           have hlv : Lv σ.objs G j := ⟨h1, _, eo⟩
           obtain ⟨_, hnd2, _⟩ := List.nodup_append.1 hnd'
           obtain ⟨hj, htm⟩ := List.nodup_cons.1 hnd2
           obtain ⟨F, m1, m2, m3, m4⟩ := moveCss_rep hM etm h3 htm
           obtain ⟨A, c, h7, h8, h9⟩ := h5.weak h4
           rw [h2]
           refine ⟨⟨css, F, m1, h4, ⟨A, c, by rw [moveCss_length etm]; exact h7, fun hp => ?_⟩, fun i hi => ?_, fun ho => ⟨(m3 ho).1, fun q hq => ?_⟩, fun q hq k hk hn => m4 q hq k hk (fun h => hn (by simp [h]))⟩⟩
           · rw [moveCss_length etm] at hp
             obtain ⟨ad, h10, _, h11⟩ := h9 hp
             exact ⟨ad, h10, h11⟩
           · rcases List.mem_cons.1 hi with rfl | hi
             · exact hlv
             · exact m2 i hi
           · obtain ⟨i, hi, hqi⟩ := (m3 ho).2 q hq
             exact ⟨i, by simp [hi], hqi⟩
          rcases h with h | h
          · exact ⟨_, _, h, rfl, Nat.le_succ _, hwf _ _, hgo.goes⟩
          · unfold VW at h
            split at h
            case h_2 => exact h.elim
            rename_i k etm2
            have h' := need_some h; clear h
            obtain ⟨ob, eok, h⟩ := h'
            split at h
            case h_2 => exact h.elim
            rename_i app sz' rows
            have hkJ : k ∈ j :: tm.2 := by rw [etm2]; simp
            have hkn : k ≠ σ.next := fun e' => by have := hw k _ eok; omega
            refine ⟨_, _, h, rfl, Nat.le_succ _, ?_, hgo.vw hkJ eok (by show get ((σ.next, _) :: dels σ.objs (b.2.2.2 ++ j :: tm.2)) k = none; rw [get_cons_other _ _ _ _ hkn, (get_dels _ _ _).1 (by rw [List.mem_append]; exact .inr hkJ)]) (fun w0 G w a hM hops => ?_)⟩
            · intro id ob hob
              by_cases ei : id = k
              · subst ei; have := hw id _ eok; show id < σ.next + 1; omega
              · exact hwf _ _ id ob (by rw [← hob]; exact (get_cons_other _ _ _ _ ei).symm)
            · obtain ⟨h1, h2, _⟩ := hops y hy _ evy
              obtain ⟨css, h3, h4, h5, h6, _⟩ := hM.obs j _ h1 eo
              obtain ⟨_, hnd2, _⟩ := List.nodup_append.1 hnd'
              obtain ⟨F, m1, m2, m3, m4⟩ := moveCss_rep hM etm h3 (List.nodup_cons.1 hnd2).2
              exact (m2 k (by rw [etm2]; simp)).1
        · unfold NO at h
          have h' := need_some h; clear h
          obtain ⟨tm, etm, ⟨hnd, hsz⟩, hbd, h⟩ := h'
          subst hsz
          have hnd' := nodupB_iff hnd
          refine ⟨_, _, h, rfl, Nat.le_succ _, hwf _ _, (append_goes (J := j :: tm.2) (own := false) hE e hk ee evx eb hbsz (fun h => by cases h) hnd' hbd hw (fun w0 G w a hM hops => ?_)).goes⟩
          obtain ⟨h1, h2, _⟩ := hops y hy _ evy
          obtain ⟨css, h3, h4, h5, h6, _⟩ := hM.obs j _ h1 eo
          have hlv : Lv σ.objs G j := ⟨h1, _, eo⟩
          obtain ⟨_, hnd2, _⟩ := List.nodup_append.1 hnd'
          obtain ⟨hj, htm⟩ := List.nodup_cons.1 hnd2
          obtain ⟨F, m1, m2, m3, m4⟩ := moveCss_rep hM etm h3 htm
          obtain ⟨A, c, h7, h8, h9⟩ := h5.weak h4
          rw [h2]
          refine ⟨⟨css, F, m1, h4, ⟨A, c, by rw [moveCss_length etm]; exact h7, fun hp => ?_⟩, fun i hi => ?_, (fun ho => by cases ho), fun q hq k hk hn => m4 q hq k hk (fun h => hn (by simp [h]))⟩⟩
          · rw [moveCss_length etm] at hp
            obtain ⟨ad, h10, _, h11⟩ := h9 hp
            exact ⟨ad, h10, h11⟩
          · rcases List.mem_cons.1 hi with rfl | hi
            · exact hlv
            · exact m2 i hi
      · rename_i o app sz rows
        obtain ⟨sc, hsc, ⟨hni, hsz⟩, hbd, h⟩ := h
        subst hsz
        refine ⟨_, _, h, rfl, Nat.le_succ _, hwf _ _, ?_⟩
        have := append_goes (P := P) (dst := dst) (type := type) (pos := pos) (after := after) (guard := guard) (J := []) (own := b.1 && sc) (rows := rows) hE e hk ee (y := y) evx eb hbsz (fun h => (Bool.and_eq_true _ _ ▸ h : _ ∧ _).1) (by simpa using hbnd) hbd hw (fun w0 G w a hM hops => by
          obtain ⟨h1, h2, _⟩ := hops y hy _ evy
          rw [h2]
          exact src_of_row hM h1 eo (fun ho => hsc (Bool.and_eq_true _ _ ▸ ho : _ ∧ _).2))
        simpa using this.goes
      · exact h.elim
    · have h' := need_some h; clear h
      obtain ⟨rows, erows, sc, hsc, hlen, hbd, h⟩ := h'
      refine ⟨_, _, h, rfl, Nat.le_succ _, hwf _ _, ?_⟩
      have := append_goes (P := P) (dst := dst) (type := type) (pos := pos) (after := after) (guard := guard) (J := []) (own := b.1 && sc) (rows := rows) hE e hk ee (y := y) evx eb hbsz (fun h => (Bool.and_eq_true _ _ ▸ h : _ ∧ _).1) (by simpa using hbnd) hbd hw (fun w0 G w a hM hops => by
        have hr := hops y hy _ evy
        have hsc' : (b.1 && sc) = true → ∀ r ∈ rows, ∀ x ∈ r, isScal x = true := fun ho => hsc (Bool.and_eq_true _ _ ▸ ho : _ ∧ _).2
        unfold spread at erows
        split at erows
        · injection erows with erows
          subst erows
          have hA : a.eval y = .slice none 0 0 := hr
          exact ⟨⟨[], [], by simp [repRows], by simp, ⟨none, 0, hA, fun h => absurd h (by simp)⟩, by simp, fun _ => by simp, by simp⟩⟩
        · injection erows with erows
          subst erows
          obtain ⟨F, h1, h2⟩ := hr
          exact src_of_T h1 h2 hlen hsc'
        · exact (‹∀ (j : Nat), AV.c (C.ref _) = AV.c (C.ref j) → False› _ rfl).elim
        · rename_i id sz lo hi _
          split at erows
          · rename_i own app sz' rows' hg
            cases hb : Nat.beq sz sz' with
            | false => rw [hb] at erows; cases erows
            | true =>
              rw [hb] at erows
              injection erows with erows
              subst erows
              have := Nat.eq_of_beq_eq_true hb
              subst this
              obtain ⟨css, F', h3, h4, h5, h6⟩ := hM.view hr hg
              obtain ⟨A, c, h7, _, h8⟩ := h5
              exact ⟨⟨css, F', h3, fun cs hcs => (repRows_row_len h3 hlen) cs hcs, ⟨A, c, h7, fun hp => by
                obtain ⟨ad, h9, _, h10⟩ := h8 hp
                refine ⟨ad, h9, fun i cs hi j u hu => ?_⟩
                have e1 : sz = te.size := by rw [← h4 cs (List.mem_of_getElem? hi)]; exact (repRows_row_len h3 hlen) cs (List.mem_of_getElem? hi)
                rw [← e1]
                exact h10 i cs hi j u hu⟩, by simp, fun ho => by rw [scalss_none (hsc' ho) h3]; simp, fun b hb j hj _ => h6 j hj b hb⟩⟩
          · cases erows
        · cases erows)
      simpa using this.goes
  · exact h.elim

/-! ### An empty literal that the same region appends to: nothing is taken from anybody -/
def opF (E : Nat → Option TI) (vl : Operand → Option AV) (op : Op) (σ : St) (K : AV → St → Prop) : Prop :=
  match op with
  | .buildSlice t len parts => need (E t) fun ti => match ti.k with
    | .sl e => need (E e) fun _ => (len = 0 ∧ parts = #[]) ∧ K (.c .nil0) σ
    | _ => False
  | .call { callee := .builtin .append, args, argTypes } => match args.toList, argTypes.toList with
    | [x, y], [t, t'] => t = t' ∧ need (E t) fun ti => match ti.k with
      | .sl e => need (E e) fun te => need (vl x) fun
        | .c .nil0 => need (vl y) fun
          | .c (.t (.lst rows)) => ∃ sc : Bool, (sc = true → ∀ r ∈ rows, ∀ x ∈ r, isScal x = true) ∧ (∀ r ∈ rows, r.length = te.size) ∧
              (rows.length * te.bytes ≤ 140737488355328 ∧ rows.length ≤ 140737488355328) ∧ K (.c (.ref σ.next)) (σ.new (.row sc true te.size rows))
          | .c (.view id sz lo hi) => need (get σ.objs id) fun
            | .row _ _ sz' orows => ∃ sc : Bool, (sz = sz' ∧ sz = te.size) ∧ (sc = true → ∀ r ∈ (orows.take hi).drop lo, ∀ x ∈ r, isScal x = true) ∧ (∀ r ∈ (orows.take hi).drop lo, r.length = te.size) ∧
              (((orows.take hi).drop lo).length * te.bytes ≤ 140737488355328 ∧ ((orows.take hi).drop lo).length ≤ 140737488355328) ∧ K (.c (.ref σ.next)) (σ.new (.row sc true te.size ((orows.take hi).drop lo)))
            | _ => False
          | _ => False
        | _ => False
      | _ => False
    | _, _ => False
  | _ => False

theorem sound_buildEmpty (hE : TOk P E) (hw : σ.wf) {t len : Nat} {parts : Array (Nat × Operand)} (h : opF E vl (.buildSlice t len parts) σ K) : SoundB P vl ⟨dst, .buildSlice t len parts, type, pos, after, guard⟩ σ K := by
  simp only [opF] at h
  have h' := need_some h; clear h
  obtain ⟨ti, e, h⟩ := h'
  generalize hk : ti.k = k0 at h
  cases k0 <;> try exact h.elim
  rename_i el
  have h' := need_some h; clear h
  obtain ⟨te, ee, ⟨rfl, rfl⟩, h⟩ := h'
  obtain ⟨d, hd, _, hkk⟩ := (hE t ti e).desc
  rw [hk] at hkk
  simp only [TKok] at hkk
  subst hkk
  obtain ⟨i, z, hi, hs, hb, hz, hzc, hzs⟩ := (hE el te ee).info
  refine ⟨_, σ, h, σ.ext_refl, hw, ?_⟩
  intro w0 O G w a Kc Q hsub hM hops hfr hK
  have hrun : (execOp a.eval ⟨dst, .buildSlice t 0 #[], type, pos, after, guard⟩).run P w = .ok (.value (.slice (some ⟨w.heap.size, 0, none⟩) 0 0)) (w.alloc (.cells #[] el)) := by
    simp only [execOp, Instr.buildSlice, Sem.run_bind, run_underlying hd, Result.andThen_ok, sizeOf, typeInfo, run_program, hi, Sem.run_pure, hs]
    have em : Array.map (fun _ : Nat => (default : Value)) (Array.range 0) = #[] := by apply Array.ext'; simp
    simp [Instr.fill, newRow]
    rw [em]
  obtain ⟨hbl, _⟩ := newBlock w #[] el
  obtain ⟨hM', hp⟩ := hM.newL (w' := w.alloc (.cells #[] el)) σ.next [] (fun j h1 h2 => absurd h2 (by simp; omega)) hbl (by simp) (by simp) (by simp) (fun k o hk => by simp at hk)
  refine wp_value hrun (hK _ _ _ hM' hp ⟨_, rfl⟩ (fun j hj => ?_))
  rcases hj with hj | hj
  · exact .inl hj
  · simp at hj; omega

theorem sound_appendEmpty (hE : TOk P E) (hw : σ.wf) {args : Array Operand} {argTypes : Array TypeId} (h : opF E vl (.call { callee := .builtin .append, args, argTypes }) σ K) :
    SoundB P vl ⟨dst, .call { callee := .builtin .append, args, argTypes }, type, pos, after, guard⟩ σ K := by
  obtain ⟨args⟩ := args
  obtain ⟨argTypes⟩ := argTypes
  simp only [opF] at h
  split at h
  · rename_i x y t t'
    obtain ⟨rfl, h⟩ := h
    have h' := need_some h; clear h
    obtain ⟨ti, e, h⟩ := h'
    generalize hk : ti.k = k0 at h
    cases k0 <;> try exact h.elim
    rename_i el
    have h' := need_some h; clear h
    obtain ⟨te, ee, h⟩ := h'
    have h' := need_some h; clear h
    obtain ⟨vx, evx, h⟩ := h'
    split at h
    · have key : ∀ (rows : List (List T)) (sc : Bool), (rows.length * te.bytes ≤ 140737488355328 ∧ rows.length ≤ 140737488355328) → K (.c (.ref σ.next)) (σ.new (.row sc true te.size rows)) →
          (∀ (w0 : Base) O G w a, (∀ id ob, get σ.objs id = some ob → get O id = some ob) → Mem w0 O G w → OpsRep vl (Op.call { callee := .builtin .append, args := ⟨[x, y]⟩, argTypes := ⟨[t, t]⟩ }) O G w a → Nonempty (Src O G w (a.eval y) rows te.size [] sc)) →
          SoundB P vl ⟨dst, .call { callee := .builtin .append, args := ⟨[x, y]⟩, argTypes := ⟨[t, t]⟩ }, type, pos, after, guard⟩ σ K := by
        intro rows sc hbd h hsrc
        refine ⟨_, _, h, σ.ext_new _, St.wf_new σ hw _, ?_⟩
        intro w0 O G w a Kc Q hsub hM hops hfr hK
        have hx : x ∈ (Op.call { callee := .builtin .append, args := ⟨[x, y]⟩, argTypes := ⟨[t, t]⟩ }).operands := by simp [Op.operands, Call.operands]
        obtain ⟨B, hB⟩ := hops x hx _ evx
        obtain ⟨⟨scss, sF, srep, slen, sval, _, sowns, simm⟩⟩ := hsrc w0 O G w a (fun id ob ho => hsub id ob ((get_cons_other _ _ _ _ (by have := hw id ob ho; omega)).trans ho)) hM hops
        obtain ⟨A, c, hu, hcells⟩ := sval
        obtain ⟨d, hd_, _, hkk⟩ := (hE t ti e).desc
        rw [hk] at hkk
        simp only [TKok] at hkk
        subst hkk
        obtain ⟨i, z, hi, hs, hbs, hz, hzc, hzs⟩ := (hE el te ee).info
        have hnl : scss.flatten.length = rows.length * i.size := by rw [flat_length slen, repRows_length srep, hs]
        obtain ⟨v', w', hrun, hown', hgrow, hwhere⟩ := run_append (P := P) w t type el i z hd_ hi hz (by rw [hzs, hs]) (.slice B 0 0) 0 [] ⟨by simp, .inl ⟨B, rfl, rfl⟩⟩ A rows.length c scss.flatten hnl
          (fun hm => by
            obtain ⟨ad, hA, hg⟩ := hcells hm
            exact ⟨ad, hA, grid_flat slen hg⟩) (repRows_one srep) (by rw [hbs, Nat.zero_add]; exact hbd.1) (by rw [Nat.zero_add]; exact hbd.2)
        rw [Nat.zero_add, List.nil_append, hs] at hown'
        have hd0 : hd (.slice B 0 0) = [] := by cases B <;> rfl
        rw [hd0] at hgrow hwhere
        have hbl : Below w.heap.size w w' := ⟨hgrow.os, hgrow.tape, hgrow.output, hgrow.size, fun k hk => hgrow.block k hk (by simp)⟩
        have hfresh : ∀ q ∈ hd v', w.heap.size ≤ q ∧ ∃ arr e, w'.heap[q]? = some (.cells arr e (0, 0)) := fun q hq => by
          refine ⟨?_, ?_⟩
          · rcases hwhere with h | ⟨h, _⟩
            · rw [h] at hq; cases hq
            · rw [h] at hq; simp at hq; omega
          · rcases hown'.2 with ⟨A', h2, _⟩ | ⟨g, o, cap, cur, e', h2, hp, hh, _⟩
            · rw [h2] at hq; cases A' <;> simp [hd] at hq
            · subst h2
              cases cap with
              | zero => omega
              | succ cap => simp only [hd, List.mem_singleton] at hq; subst hq; exact ⟨_, _, hh⟩
        have hnd : (hd v').Nodup := by
          rcases hwhere with h | ⟨h, _⟩ <;> rw [h] <;> simp
        have hOn : get O σ.next = some (.row sc true te.size rows) := hsub _ _ (σ.new_get _)
        obtain ⟨hM', hp⟩ := hM.newL (w' := w') σ.next [(v', hd v')] (fun j h1 h2 => hfr j h1 (by simpa [St.new] using h2)) hbl (by simpa using hnd) (fun p hp b hb => by simp at hp; subst hp; exact hfresh b hb) (fun p hp b hb => by simp at hp; subst hp; exact hb)
          (fun k o hk ho p => by
            have hk0 : k = 0 := by simpa using hk
            subst hk0
            have hn := Gh.addL_new (G := G) (n := σ.next) (l := [(v', hd v')]) (k := 0) (by simp)
            rw [Nat.add_zero] at ho hn ⊢
            rw [hOn] at ho
            injection ho with ho
            subst ho
            have hlow : ∀ b ∈ sF, b < w.heap.size := repRows_lt rows scss sF srep
            refine ⟨scss, sF, repRows_keep rows scss sF srep (fun b hb => hbl.block b (hlow b hb)), slen, ?_, ?_⟩
            · simp only [if_true]
              rw [hn.1, hn.2.2]
              exact ⟨hown', rfl⟩
            · cases sc with
              | true =>
                have hF : sF = [] := by
                  cases hsF : sF with
                  | nil => rfl
                  | cons b r =>
                    obtain ⟨j, hj, _⟩ := (sowns rfl).2 b (by rw [hsF]; simp)
                    simp at hj
                simp only [if_true]
                rw [hn.2.1, hn.2.2, hF]
                simp
              | false =>
                simp only [Bool.false_eq_true, if_false]
                refine ⟨by rw [hn.2.1, hn.2.2]; rfl, ?_⟩
                intro j hj b hb hbj
                rcases p.hds j hj b hbj with ⟨j', hj', hb'⟩ | hge
                · exact simm b hb j' hj' (by simp) hb'
                · have := hlow b hb; omega)
        have hn := Gh.addL_new (G := G) (n := σ.next) (l := [(v', hd v')]) (k := 0) (by simp)
        rw [Nat.add_zero] at hn
        refine wp_value (w' := w') (v := v') ?_ (hK _ v' w' hM' hp ?_ (fun j hj => ?_))
        · simp only [execOp, resolve, invoke, builtin, Sem.run_bind, Sem.run_pure, Result.andThen_ok, List.map_toArray, List.map_cons, List.map_nil]
          rw [hB, hu, hrun]
          rfl
        · simp only [AV.rep]
          exact ⟨.inr ⟨by omega, by simp⟩, hn.1.symm, hown'.one⟩
        · rcases hj with hj | hj
          · exact .inl hj
          · exact .inr ⟨hj.1, by simpa [St.new] using hj.2⟩
      have hy : y ∈ (Op.call { callee := .builtin .append, args := ⟨[x, y]⟩, argTypes := ⟨[t, t]⟩ }).operands := by simp [Op.operands, Call.operands]
      obtain ⟨vy, evy, h⟩ := need_some h
      split at h
      · rename_i rows
        obtain ⟨sc, hsc, hlen, hbd, h⟩ := h
        exact key rows sc hbd h (fun w0 O G w a _ hM hops => by
          obtain ⟨F0, hr1, hr2⟩ := hops y hy _ evy
          exact src_of_T (O := O) (G := G) hr1 hr2 hlen hsc)
      · rename_i id sz lo hi
        obtain ⟨ob, eob, h⟩ := need_some h
        split at h
        · rename_i own app sz' orows
          obtain ⟨sc, ⟨rfl, rfl⟩, hsc, hlen, hbd, h⟩ := h
          exact key _ sc hbd h (fun w0 O G w a hsub hM hops => by
            have hr := hops y hy _ evy
            obtain ⟨css, F', h3, h4, h5, h6⟩ := hM.view hr (hsub _ _ eob)
            obtain ⟨A, c, h7, _, h8⟩ := h5
            exact ⟨⟨css, F', h3, fun cs hcs => (repRows_row_len h3 hlen) cs hcs, ⟨A, c, h7, fun hp => by
              obtain ⟨ad, h9, _, h10⟩ := h8 hp
              exact ⟨ad, h9, fun i cs hi j u hu => h10 i cs hi j u hu⟩⟩, by simp, fun ho => by rw [scalss_none (hsc ho) h3]; simp, fun b hb j hj _ => h6 j hj b hb⟩⟩)
        · exact h.elim
      · exact h.elim
    · exact h.elim
  · exact h.elim

theorem opF_sound (hE : TOk P E) (hw : σ.wf) {o : Oper} (h : opF E vl o.op σ K) : SoundB P vl o σ K := by
  obtain ⟨dst, op, type, pos, after, guard⟩ := o
  simp only at h
  cases op with
  | buildSlice t len parts => exact sound_buildEmpty hE hw h
  | call c =>
    obtain ⟨cal, args, argTypes⟩ := c
    cases cal with
    | value f => simp [opF] at h
    | builtin b => cases b <;> first | exact sound_appendEmpty hE hw h | (simp [opF] at h)
    | invoke r m => simp [opF] at h
  | _ => simp [opF] at h

/-- THE SOUNDNESS OF 'opE'. -/
theorem opE_sound (hE : TOk P E) (hw : σ.wf) {o : Oper} (h : opE E vl o.op σ K) : SoundE P vl o σ K := by
  obtain ⟨dst, op, type, pos, after, guard⟩ := o
  simp only at h
  cases op with
  | store t x v => exact sound_store hE hw h
  | call c =>
    obtain ⟨cal, args, argTypes⟩ := c
    cases cal with
    | value f => simp [opE] at h
    | builtin b => cases b <;> first | exact sound_append hE hw h | (simp [opE] at h)
    | invoke r m => simp [opE] at h
  | _ => simp [opE] at h
end
end Go.Vm
