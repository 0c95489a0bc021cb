/-
  Soundness of append, and of all operations that write.
  Conditions: the table of types fits the program ('TOk').
-/
import Derived.Test.YtpelgajmebgbaaaVmL
namespace Go.Vm
open Go.RowKit

theorem scal_none {w : World} {x : T} {v : Value} {F : List Nat} (h : isScal x = true) (hr : x.rep w v F) : F = [] := by
  cases x <;> simp [isScal] at h <;> exact hr.2
theorem scals_none {w : World} : ∀ {xs : List T} {vs : List Value} {F : List Nat}, (∀ x ∈ xs, isScal x = true) → repCells w xs vs F → F = []
  | [], vs, F, _, h => by simp only [repCells] at h; exact h.2
  | x :: xs, vs, F, hs, h => by
    simp only [repCells] at h
    obtain ⟨v, cs', F1, F2, _, rfl, h3, h4⟩ := h
    rw [scal_none (hs x (by simp)) h3, scals_none (fun y hy => hs y (by simp [hy])) h4]
    rfl
theorem scalss_none {w : World} : ∀ {xs : List (List T)} {vs : List (List Value)} {F : List Nat}, (∀ r ∈ xs, ∀ x ∈ r, isScal x = true) → repRows w xs vs F → F = []
  | [], vs, F, _, h => by simp only [repRows] at h; exact h.2
  | x :: xs, vs, F, hs, h => by
    simp only [repRows] at h
    obtain ⟨v, cs', F1, F2, _, rfl, h3, h4⟩ := h
    rw [scals_none (hs x (by simp)) h3, scalss_none (fun y hy => hs y (by simp [hy])) h4]
    rfl
theorem repRows_one {w : World} : ∀ {xs : List (List T)} {vs : List (List Value)} {F : List Nat}, repRows w xs vs F → ∀ v ∈ vs.flatten, v.oneCell' = true
  | [], vs, F, h, v, hv => by simp only [repRows] at h; simp [h.1] at hv
  | x :: xs, vs, F, h, v, hv => by
    simp only [repRows] at h
    obtain ⟨cs, css', F1, F2, rfl, rfl, h3, h4⟩ := h
    rw [List.flatten_cons] at hv
    rcases List.mem_append.1 hv with hv | hv
    · exact repCells_one h3 v hv
    · exact repRows_one h4 v hv
theorem repRows_row_len {w : World} {rows : List (List T)} {css : List (List Value)} {F : List Nat} {n : Nat} (h : repRows w rows css F) (hl : ∀ r ∈ rows, r.length = n) : ∀ cs ∈ css, cs.length = n := by
  intro cs hcs
  obtain ⟨i, hi, he⟩ := List.getElem_of_mem hcs
  have hi' : i < rows.length := by rw [← repRows_length h]; exact hi
  obtain ⟨cs', F1, h1, h2, _⟩ := repRows_get h i rows[i] (List.getElem?_eq_getElem hi')
  rw [List.getElem?_eq_getElem hi] at h1
  injection h1 with h1
  rw [← he, h1, repCells_length h2]
  exact hl _ (List.getElem_mem hi')

section
variable {P : Program} {E : Nat → Option TI} {vl : Operand → Option AV} {σ : St}
variable {dst : Option Tmp} {type : TypeId} {pos : String} {after : Array Edge} {guard : Option (Nat × Bool)} {K : AV → St → Prop}

/-- What is appended: a slice value that shows 'rows'; 'J' are the objects that go with it. -/
structure Src (O : List (Nat × Ob)) (G : Gh) (w : World) (u : Value) (rows : List (List T)) (sz : Nat) (J : List Nat) (own : Bool) where
  css : List (List Value)
  F : List Nat
  rep : repRows w rows css F
  len : ∀ cs ∈ css, cs.length = sz
  val : ∃ A c, u = .slice A rows.length c ∧ (0 < rows.length → ∃ ad, A = some ad ∧ ∀ (i : Nat) cs, css[i]? = some cs → ∀ (j : Nat) v, cs[j]? = some v → w.cell? (ad.add (i * sz + j)) = some v)
  live : ∀ i ∈ J, Lv O G i
  owns : own = true → F.Nodup ∧ ∀ b ∈ F, ∃ i, i ∈ J ∧ b ∈ G.Φ i
  imm : ∀ b ∈ F, ∀ j, Lv O G j → j ∉ J → b ∉ G.h j

theorem append_goes {t e : Nat} {ti te : TI} (hE : TOk P E) (he : E t = some ti) (hk : ti.k = .sl e) (hee : E e = some te) {x y : Operand} {vx : AV} {b : Bool × List (List T) × Option Nat × List Nat}
    (hvx : vl x = some vx) (hb : baseOf σ.objs vx = some b) (hbsz : b.2.2.1 = none ∨ b.2.2.1 = some te.size) {rows : List (List T)} {J : List Nat} {own : Bool} (hown : own = true → b.1 = true)
    (hnd : (b.2.2.2 ++ J).Nodup) (hbd : (b.2.1.length + rows.length) * te.bytes ≤ 140737488355328 ∧ b.2.1.length + rows.length ≤ 140737488355328) (_hw : σ.wf)
    (hsrc : ∀ (w0 : Base) G w a, Mem w0 σ.objs G w → OpsRep vl (Op.call { callee := .builtin .append, args := ⟨[x, y]⟩, argTypes := ⟨[t, t]⟩ }) σ.objs G w a → Nonempty (Src σ.objs G w (a.eval y) rows te.size J own)) :
    GoesE P vl ⟨dst, .call { callee := .builtin .append, args := ⟨[x, y]⟩, argTypes := ⟨[t, t]⟩ }, type, pos, after, guard⟩ σ
      ⟨σ.env, (σ.next, .row own true te.size (b.2.1 ++ rows)) :: dels σ.objs (b.2.2.2 ++ J), σ.next + 1⟩ (.c (.ref σ.next)) := by
  intro w0 G w a Kc Q hM hops hfr hK
  have hx : x ∈ (Op.call { callee := .builtin .append, args := ⟨[x, y]⟩, argTypes := ⟨[t, t]⟩ }).operands := by simp [Op.operands, Call.operands]
  obtain ⟨⟨scss, sF, srep, slen, sval, slive, sowns, simm⟩⟩ := hsrc w0 G w a hM hops
  obtain ⟨A, c, hu, hcells⟩ := sval
  obtain ⟨d, hd_, _, hkk⟩ := (hE t ti he).desc
  rw [hk] at hkk
  simp only [TKok] at hkk
  subst hkk
  obtain ⟨i, z, hi, hs, hbs, hz, hzc, hzs⟩ := (hE e te hee).info
  obtain ⟨hnd1, hnd2, hnd3⟩ := List.nodup_append.1 hnd
  -- the base
  have hbase : ∃ css F', repRows w b.2.1 css F' ∧ (∀ cs ∈ css, cs.length = te.size) ∧ RowOwn w (a.eval x) b.2.1.length te.size css.flatten ∧ (∀ i ∈ b.2.2.2, Lv σ.objs G i) ∧
      (∀ q ∈ hd (a.eval x), ∃ i, i ∈ b.2.2.2 ∧ q ∈ G.h i) ∧ (b.1 = true → (hd (a.eval x) ++ F').Nodup ∧ ∀ q ∈ F', ∃ i, i ∈ b.2.2.2 ∧ q ∈ G.Φ i) ∧ Imm σ.objs G F' := by
    have hr := hops x hx _ hvx
    unfold baseOf at hb
    split at hb
    · injection hb with hb
      subst hb
      have hB : a.eval x = .slice none 0 0 := hr
      rw [hB]
      exact ⟨[], [], by simp [repRows], by simp, ⟨by simp, .inl ⟨none, rfl, rfl⟩⟩, by simp, by simp [hd], by simp [hd], fun _ _ q hq => by simp at hq⟩
    · injection hb with hb
      subst hb
      obtain ⟨B, hB⟩ := hr
      rw [hB]
      refine ⟨[], [], by simp [repRows], by simp, ⟨by simp, .inl ⟨B, rfl, rfl⟩⟩, by simp, ?_, ?_, fun _ _ q hq => by simp at hq⟩
      · cases B <;> simp [hd]
      · cases B <;> simp [hd]
    · rename_i id
      split at hb
      · rename_i bo sz brows hg
        injection hb with hb
        subst hb
        obtain ⟨h1, h2, _⟩ := hr
        have hlv : Lv σ.objs G id := ⟨h1, _, hg⟩
        obtain ⟨_, F1, _, _, _, him⟩ := hM.row h1 hg
        obtain ⟨css, F', h3, h4, h5, h6⟩ := hM.obs id _ h1 hg
        simp only [if_true] at h5
        have hsz : sz = te.size := by rcases hbsz with h | h <;> simp_all
        subst hsz
        rw [h2]
        refine ⟨css, F', h3, h4, h5.1, by simpa using hlv, fun q hq => ⟨id, by simp, by rw [h5.2]; exact hq⟩, fun ho => ?_, ?_⟩
        · have ho' : bo = true := ho
          subst ho'
          simp only [if_true] at h6
          have := hM.nodup id hlv
          rw [h6, h5.2] at this
          exact ⟨this, fun q hq => ⟨id, by simp, by rw [h6]; simp [hq]⟩⟩
        · cases bo with
          | true =>
            simp only [if_true] at h6
            intro j hj q hq hqj
            by_cases e : j = id
            · subst e
              have := hM.nodup j hj
              rw [h6] at this
              exact (List.nodup_append.1 this).2.2 q hqj q hq rfl
            · exact hM.disj id j hlv hj (fun e' => e e'.symm) q (by rw [h6]; simp [hq]) (hM.hds j hj q hqj)
          | false => simp only [Bool.false_eq_true, if_false] at h6; exact h6.2
      · cases hb
    · cases hb
  obtain ⟨css, F', hr1, hr2, hr3, hr4, hr5, hr6, hr7⟩ := hbase
  -- the run
  have hnl : scss.flatten.length = rows.length * i.size := by rw [flat_length slen, repRows_length srep, hs]
  obtain ⟨v', w', hrun, hown', hgrow, hwhere⟩ := run_append (P := P) w t type e i z hd_ hi hz (by rw [hzs, hs]) (a.eval x) b.2.1.length css.flatten (by rw [hs]; exact hr3) A rows.length c scss.flatten hnl
    (fun hm => by
      obtain ⟨ad, hA, hg⟩ := hcells hm
      exact ⟨ad, hA, grid_flat slen hg⟩) (repRows_one srep) (by rw [hbs]; exact hbd.1) hbd.2
  rw [hs] at hown'
  have hhdle : ∀ q ∈ hd (a.eval x), q < w.heap.size := fun q hq => by
    obtain ⟨j, hj, hqj⟩ := hr5 q hq
    obtain ⟨_, arr, e', hh⟩ := hM.lo j (hr4 j hj) q (hM.hds j (hr4 j hj) q hqj)
    exact (Array.getElem?_eq_some_iff.1 hh).1
  have hsame : ∀ q, q < w.heap.size → q ∉ hd (a.eval x) → w'.heap[q]? = w.heap[q]? := fun q hq hn => hgrow.block q hq (fun e' => by
    cases hx' : hd (a.eval x) with
    | nil => rw [hx'] at e'; simp at e'
    | cons p ps => rw [hx'] at e' hn; simp at e'; subst e'; simp at hn)
  have hFlt : ∀ q ∈ F', q < w.heap.size := repRows_lt _ _ _ hr1
  have hSlt : ∀ q ∈ sF, q < w.heap.size := repRows_lt _ _ _ srep
  have hFx : ∀ q ∈ F', q ∉ hd (a.eval x) := fun q hq hqx => by
    obtain ⟨j, hj, hqj⟩ := hr5 q hqx
    exact hr7 j (hr4 j hj) q hq hqj
  have hSx : ∀ q ∈ sF, q ∉ hd (a.eval x) := fun q hq hqx => by
    obtain ⟨j, hj, hqj⟩ := hr5 q hqx
    exact simm q hq j (hr4 j hj) (fun hJ => hnd3 j hj j hJ rfl) hqj
  have hrows : repRows w' (b.2.1 ++ rows) (css ++ scss) (F' ++ sF) :=
    repRows_append (repRows_keep _ _ _ hr1 (fun q hq => hsame q (hFlt q hq) (hFx q hq))) (repRows_keep _ _ _ srep (fun q hq => hsame q (hSlt q hq) (hSx q hq)))
  have hlens : ∀ cs ∈ css ++ scss, cs.length = te.size := fun cs hcs => by
    rcases List.mem_append.1 hcs with h | h
    · exact hr2 cs h
    · exact slen cs h
  have hrowOwn : RowOwn w' v' (b.2.1 ++ rows).length te.size (css ++ scss).flatten := by
    rw [List.length_append, List.flatten_append]
    exact hown'
  have hv'cell : ∀ q ∈ hd v', ∃ arr e, w'.heap[q]? = some (.cells arr e (0, 0)) := fun q hq => by
    rcases hown'.2 with ⟨B, hB, _⟩ | ⟨g, cap, cur, el, hv, hcap, hg, _⟩
    · rw [hB] at hq; cases B <;> simp [hd] at hq
    · rw [hv] at hq
      cases cap with
      | zero => omega
      | succ cap => simp [hd] at hq; subst hq; exact ⟨_, _, hg⟩
  have hv'from : ∀ q ∈ hd v', q ∈ hd (a.eval x) ∨ q = w.heap.size := fun q hq => by
    rcases hwhere with h | h
    · exact .inl (by rw [← h]; exact hq)
    · rw [h.1] at hq; exact .inr (by simpa using hq)
  have hnA : ¬ G.A σ.next := fun h => Nat.lt_irrefl _ (hfr _ h)
  have hne : ∀ j, Lv σ.objs G j → j ≠ σ.next := fun j hj e' => hnA (e' ▸ hj.1)
  have hS : ∀ j ∈ b.2.2.2 ++ J, Lv σ.objs G j := fun j hj => by
    rcases List.mem_append.1 hj with h | h
    · exact hr4 j h
    · exact slive j h
  have holdcell : ∀ q, q < w.heap.size → q ∉ hd (a.eval x) → (∃ j, Lv σ.objs G j ∧ q ∈ G.Φ j) → ∃ arr e, w'.heap[q]? = some (.cells arr e (0, 0)) := fun q hq hn ⟨j, hj, hqj⟩ => by
    obtain ⟨_, arr, e', hh⟩ := hM.lo j hj q hqj
    exact ⟨arr, e', by rw [hsame q hq hn]; exact hh⟩
  obtain ⟨hM', hp⟩ := hM.move (O' := (σ.next, .row own true te.size (b.2.1 ++ rows)) :: dels σ.objs (b.2.2.2 ++ J)) (w' := w') σ.next v' (hd v' ++ (if own then F' ++ sF else [])) (b.2.2.2 ++ J)
    (fun j hj hn => by rw [get_cons_other _ _ _ _ hj, (get_dels _ _ _).2 hn]) (fun j hj hn => by rw [get_cons_other _ _ _ _ hj, (get_dels _ _ _).1 hn]) (fun h => absurd h hnA)
    hgrow.os hgrow.tape hgrow.output hgrow.size
    (fun q hq hn => hsame q hq (fun hqx => by
      obtain ⟨j, hj, hqj⟩ := hr5 q hqx
      exact hn j (hr4 j hj) (.inl (by simp [hj])) hqj))
    (by
      have hv1 : (hd v').Nodup := by
        rcases hown'.2 with ⟨B, hB, _⟩ | ⟨g, cap, cur, el, hv, _⟩
        · rw [hB]; cases B <;> simp [hd]
        · rw [hv]; cases cap <;> simp [hd]
      cases hown_ : own with
      | false => simpa using hv1
      | true =>
        simp only [if_true]
        obtain ⟨h1, h2⟩ := hr6 (hown hown_)
        obtain ⟨h3, h4⟩ := sowns hown_
        obtain ⟨h5, h6, h7⟩ := List.nodup_append.1 h1
        refine List.nodup_append.2 ⟨hv1, List.nodup_append.2 ⟨h6, h3, fun q hq q' hq' e' => ?_⟩, fun q hq q' hq' e' => ?_⟩
        · subst e'
          obtain ⟨j, hj, hqj⟩ := h2 q hq
          obtain ⟨j', hj', hqj'⟩ := h4 q hq'
          exact hM.disj j j' (hr4 j hj) (slive j' hj') (hnd3 j hj j' hj') q hqj hqj'
        · subst e'
          rcases hv'from q hq with h | h
          · rcases List.mem_append.1 hq' with hq' | hq'
            · exact h7 q h q hq' rfl
            · exact hSx q hq' h
          · rcases List.mem_append.1 hq' with hq' | hq'
            · have := hFlt q hq'; omega
            · have := hSlt q hq'; omega)
    (fun q hq => by
      rcases List.mem_append.1 hq with hq | hq
      · refine ⟨?_, hv'cell q hq⟩
        rcases hv'from q hq with h | h
        · obtain ⟨j, hj, hqj⟩ := hr5 q h
          exact .inr ⟨j, hr4 j hj, .inl (by simp [hj]), hM.hds j (hr4 j hj) q hqj⟩
        · exact .inl (by omega)
      · cases hown_ : own with
        | false => simp [hown_] at hq
        | true =>
          simp only [hown_, if_true] at hq
          rcases List.mem_append.1 hq with hq | hq
          · obtain ⟨j, hj, hqj⟩ := (hr6 (hown hown_)).2 q hq
            exact ⟨.inr ⟨j, hr4 j hj, .inl (by simp [hj]), hqj⟩, holdcell q (hFlt q hq) (hFx q hq) ⟨j, hr4 j hj, hqj⟩⟩
          · obtain ⟨j, hj, hqj⟩ := (sowns hown_).2 q hq
            exact ⟨.inr ⟨j, slive j hj, .inl (by simp [hj]), hqj⟩, holdcell q (hSlt q hq) (hSx q hq) ⟨j, slive j hj, hqj⟩⟩)
    (fun q hq => by
      refine ⟨by simp [hq], ?_⟩
      rcases hv'from q hq with h | h
      · obtain ⟨j, hj, hqj⟩ := hr5 q h
        exact .inr ⟨j, hr4 j hj, hqj⟩
      · exact .inl (by omega))
    (fun o ho p => by
      rw [get_cons_same] at ho
      injection ho with ho
      subst ho
      refine ⟨_, _, hrows, hlens, ?_, ?_⟩
      · simp only [if_true, Gh.set]; exact ⟨hrowOwn, trivial⟩
      · cases hown_ : own with
        | true => simp only [if_true, Gh.set]
        | false =>
          simp only [Bool.false_eq_true, if_false, Gh.set, if_true, List.append_nil, true_and]
          intro j hj q hq hqj
          have hqlt : q < w.heap.size := by
            rcases List.mem_append.1 hq with h | h
            · exact hFlt q h
            · exact hSlt q h
          by_cases ej : j = σ.next
          · subst ej
            have hqv : q ∈ hd v' := by simpa using hqj
            rcases hv'from q hqv with h | h
            · rcases List.mem_append.1 hq with h2 | h2
              · exact hFx q h2 h
              · exact hSx q h2 h
            · omega
          · obtain ⟨ha, o', ho'⟩ := hj
            have ha' : G.A j := by
              rcases ha with h | h
              · exact h
              · exact absurd h ej
            rw [get_cons_other _ _ _ _ ej] at ho'
            by_cases hjS : j ∈ b.2.2.2 ++ J
            · rw [(get_dels _ _ _).1 hjS] at ho'; cases ho'
            · rw [(get_dels _ _ _).2 hjS] at ho'
              have hqj' : q ∈ G.h j := by simpa [ej] using hqj
              rcases List.mem_append.1 hq with h2 | h2
              · exact hr7 j ⟨ha', o', ho'⟩ q h2 hqj'
              · exact simm q h2 j ⟨ha', o', ho'⟩ (fun h => hjS (by simp [h])) hqj')
  refine wp_value (w' := w') (v := v') ?_ (hK _ v' w' hM' hp ?_ (fun j hj => ?_))
  · have hrun' := hrun
    rw [← hu] at hrun'
    simp only [execOp, resolve, invoke, builtin, Sem.run_bind, Sem.run_pure, Result.andThen_ok, List.map_toArray, List.map_cons, List.map_nil]
    rw [hrun']
    rfl
  · simp only [AV.rep]
    exact ⟨.inr rfl, by simp [Gh.set], hrowOwn.one⟩
  · rcases hj with hj | hj
    · have := hfr j hj; simp only; omega
    · subst hj; simp

/-- What a slice value that is read shows. -/
theorem src_of_T {O : List (Nat × Ob)} {G : Gh} {w : World} {u : Value} {rows : List (List T)} {F : List Nat} {sz : Nat} {sc : Bool} (h : (T.lst rows).rep w u F) (him : Imm O G F) (hl : ∀ r ∈ rows, r.length = sz) (hsc : sc = true → ∀ r ∈ rows, ∀ x ∈ r, isScal x = true) :
    Nonempty (Src O G w u rows sz [] sc) := by
  simp only [T.rep] at h
  obtain ⟨A, c, h1, h2, h3⟩ := h
  rcases h3 with ⟨rfl, rfl⟩ | ⟨ad, css, F', sz', hne, rfl, hlt, rfl, hr, hg⟩
  · exact ⟨⟨[], [], by simp [repRows], by simp, ⟨A, c, h1, fun h => absurd h (by simp)⟩, by simp, fun _ => by simp, by simp⟩⟩
  · have hlen := repRows_row_len hr hl
    refine ⟨⟨css, F', hr, hlen, ⟨_, c, h1, fun _ => ⟨ad, rfl, fun i cs hi j v hv => ?_⟩⟩, by simp, fun ho => ?_, fun b hb j hj _ => him j hj b (by simp [hb])⟩⟩
    · have := hg i cs hi
      have e : sz' = sz := by rw [← this.1]; exact hlen cs (List.mem_of_getElem? hi)
      rw [← e]
      exact this.2 j v hv
    · rw [scalss_none (hsc ho) hr]; simp
theorem src_of_row {O : List (Nat × Ob)} {G : Gh} {w : World} {w0 : Base} (hM : Mem w0 O G w) {id : Nat} {o app : Bool} {sz : Nat} {rows : List (List T)} (ha : G.A id) (hg : get O id = some (.row o app sz rows)) {sc : Bool} (hsc : sc = true → ∀ r ∈ rows, ∀ x ∈ r, isScal x = true) :
    Nonempty (Src O G w (G.φ id) rows sz [] sc) := by
  obtain ⟨css, F', h1, h2, h3, h4⟩ := hM.row ha hg
  obtain ⟨A, c, h5, h6, h7⟩ := h3
  refine ⟨⟨css, F', h1, h2, ⟨A, c, h5, fun h => ?_⟩, by simp, fun ho => ?_, fun b hb j hj _ => h4 j hj b hb⟩⟩
  · obtain ⟨ad, h8, _, h9⟩ := h7 h
    exact ⟨ad, h8, h9⟩
  · rw [scalss_none (hsc ho) h1]; simp

theorem sound_append (hE : TOk P E) (hw : σ.wf) {args : Array Operand} {argTypes : Array TypeId} (h : opE E vl (.call { callee := .builtin .append, args, argTypes }) σ K) :
    SoundE P vl ⟨dst, .call { callee := .builtin .append, args, argTypes }, type, pos, after, guard⟩ σ K := by
  obtain ⟨args⟩ := args
  obtain ⟨argTypes⟩ := argTypes
  simp only [opE] at h
  split at h
  · rename_i x y t t'
    obtain ⟨rfl, h⟩ := h
    have h' := need_some h; clear h
    obtain ⟨ti, e, h⟩ := h'
    generalize hk : ti.k = k0 at h
    cases k0 <;> try exact h.elim
    rename_i el
    have h' := need_some h; clear h
    obtain ⟨te, ee, h⟩ := h'
    have h' := need_some h; clear h
    obtain ⟨vx, evx, h⟩ := h'
    have h' := need_some h; clear h
    obtain ⟨vy, evy, h⟩ := h'
    have h' := need_some h; clear h
    obtain ⟨b, eb, hbsz, h⟩ := h'
    have hy : y ∈ (Op.call { callee := .builtin .append, args := ⟨[x, y]⟩, argTypes := ⟨[t, t]⟩ }).operands := by simp [Op.operands, Call.operands]
    have hbnd : b.2.2.2.Nodup := by
      unfold baseOf at eb
      split at eb
      · injection eb with eb; subst eb; simp
      · injection eb with eb; subst eb; simp
      · split at eb
        · injection eb with eb; subst eb; simp
        · cases eb
      · cases eb
    have hwf : ∀ (o : Ob) (S : List Nat), St.wf ⟨σ.env, (σ.next, o) :: dels σ.objs S, σ.next + 1⟩ := by
      intro o S id ob hob
      simp only at hob ⊢
      by_cases e : id = σ.next
      · omega
      · rw [get_cons_other _ _ _ _ e] at hob
        by_cases hs : id ∈ S
        · rw [(get_dels _ _ _).1 hs] at hob; cases hob
        · rw [(get_dels _ _ _).2 hs] at hob
          have := hw id ob hob
          omega
    split at h
    · rename_i j
      have h' := need_some h; clear h
      obtain ⟨ob, eo, h⟩ := h'
      split at h
      · rename_i sz crows
        have h' := need_some h; clear h
        obtain ⟨tm, etm, ⟨hnd, hsz⟩, hbd, h⟩ := h'
        subst hsz
        have hnd' := nodupB_iff hnd
        refine ⟨_, _, h, rfl, Nat.le_succ _, hwf _ _, append_goes (J := j :: tm.2) (own := b.1) hE e hk ee evx eb hbsz (fun h => h) hnd' hbd hw (fun w0 G w a hM hops => ?_)⟩
        obtain ⟨h1, h2, _⟩ := hops y hy _ evy
        obtain ⟨css, h3, h4, h5, h6, _⟩ := hM.obs j _ h1 eo
        have hlv : Lv σ.objs G j := ⟨h1, _, eo⟩
        obtain ⟨_, hnd2, _⟩ := List.nodup_append.1 hnd'
        obtain ⟨hj, htm⟩ := List.nodup_cons.1 hnd2
        obtain ⟨F, m1, m2, m3, m4⟩ := moveCss_rep hM etm h3 htm
        obtain ⟨A, c, h7, h8, h9⟩ := h5.weak h4
        rw [h2]
        refine ⟨⟨css, F, m1, h4, ⟨A, c, by rw [moveCss_length etm]; exact h7, fun hp => ?_⟩, fun i hi => ?_, fun ho => ⟨(m3 ho).1, fun q hq => ?_⟩, fun q hq k hk hn => m4 q hq k hk (fun h => hn (by simp [h]))⟩⟩
        · rw [moveCss_length etm] at hp
          obtain ⟨ad, h10, _, h11⟩ := h9 hp
          exact ⟨ad, h10, h11⟩
        · rcases List.mem_cons.1 hi with rfl | hi
          · exact hlv
          · exact m2 i hi
        · obtain ⟨i, hi, hqi⟩ := (m3 ho).2 q hq
          exact ⟨i, by simp [hi], hqi⟩
      · rename_i o app sz rows
        obtain ⟨sc, hsc, ⟨hni, hsz⟩, hbd, h⟩ := h
        subst hsz
        refine ⟨_, _, h, rfl, Nat.le_succ _, hwf _ _, ?_⟩
        have := append_goes (P := P) (dst := dst) (type := type) (pos := pos) (after := after) (guard := guard) (J := []) (own := b.1 && sc) (rows := rows) hE e hk ee (y := y) evx eb hbsz (fun h => (Bool.and_eq_true _ _ ▸ h : _ ∧ _).1) (by simpa using hbnd) hbd hw (fun w0 G w a hM hops => by
          obtain ⟨h1, h2, _⟩ := hops y hy _ evy
          rw [h2]
          exact src_of_row hM h1 eo (fun ho => hsc (Bool.and_eq_true _ _ ▸ ho : _ ∧ _).2))
        simpa using this
      · exact h.elim
    · have h' := need_some h; clear h
      obtain ⟨rows, erows, sc, hsc, hlen, hbd, h⟩ := h'
      refine ⟨_, _, h, rfl, Nat.le_succ _, hwf _ _, ?_⟩
      have := append_goes (P := P) (dst := dst) (type := type) (pos := pos) (after := after) (guard := guard) (J := []) (own := b.1 && sc) (rows := rows) hE e hk ee (y := y) evx eb hbsz (fun h => (Bool.and_eq_true _ _ ▸ h : _ ∧ _).1) (by simpa using hbnd) hbd hw (fun w0 G w a hM hops => by
        have hr := hops y hy _ evy
        have hsc' : (b.1 && sc) = true → ∀ r ∈ rows, ∀ x ∈ r, isScal x = true := fun ho => hsc (Bool.and_eq_true _ _ ▸ ho : _ ∧ _).2
        unfold spread at erows
        split at erows
        · injection erows with erows
          subst erows
          have hA : a.eval y = .slice none 0 0 := hr
          exact ⟨⟨[], [], by simp [repRows], by simp, ⟨none, 0, hA, fun h => absurd h (by simp)⟩, by simp, fun _ => by simp, by simp⟩⟩
        · injection erows with erows
          subst erows
          obtain ⟨F, h1, h2⟩ := hr
          exact src_of_T h1 h2 hlen hsc'
        · exact (‹∀ (j : Nat), AV.c (C.ref _) = AV.c (C.ref j) → False› _ rfl).elim
        · rename_i id sz lo hi _
          split at erows
          · rename_i own app sz' rows' hg
            cases hb : Nat.beq sz sz' with
            | false => rw [hb] at erows; cases erows
            | true =>
              rw [hb] at erows
              injection erows with erows
              subst erows
              have := Nat.eq_of_beq_eq_true hb
              subst this
              obtain ⟨css, F', h3, h4, h5, h6⟩ := hM.view hr hg
              obtain ⟨A, c, h7, _, h8⟩ := h5
              exact ⟨⟨css, F', h3, fun cs hcs => (repRows_row_len h3 hlen) cs hcs, ⟨A, c, h7, fun hp => by
                obtain ⟨ad, h9, _, h10⟩ := h8 hp
                refine ⟨ad, h9, fun i cs hi j u hu => ?_⟩
                have e1 : sz = te.size := by rw [← h4 cs (List.mem_of_getElem? hi)]; exact (repRows_row_len h3 hlen) cs (List.mem_of_getElem? hi)
                rw [← e1]
                exact h10 i cs hi j u hu⟩, by simp, fun ho => by rw [scalss_none (hsc' ho) h3]; simp, fun b hb j hj _ => h6 j hj b hb⟩⟩
          · cases erows
        · cases erows)
      simpa using this
  · exact h.elim

/-! ### An empty literal that the same region appends to: nothing is taken from anybody -/
def opF (E : Nat → Option TI) (vl : Operand → Option AV) (op : Op) (σ : St) (K : AV → St → Prop) : Prop :=
  match op with
  | .buildSlice t len parts => need (E t) fun ti => match ti.k with
    | .sl e => need (E e) fun _ => (len = 0 ∧ parts = #[]) ∧ K (.c .nil0) σ
    | _ => False
  | .call { callee := .builtin .append, args, argTypes } => match args.toList, argTypes.toList with
    | [x, y], [t, t'] => t = t' ∧ need (E t) fun ti => match ti.k with
      | .sl e => need (E e) fun te => need (vl x) fun
        | .c .nil0 => need (vl y) fun
          | .c (.t (.lst rows)) => ∃ sc : Bool, (sc = true → ∀ r ∈ rows, ∀ x ∈ r, isScal x = true) ∧ (∀ r ∈ rows, r.length = te.size) ∧
              (rows.length * te.bytes ≤ 140737488355328 ∧ rows.length ≤ 140737488355328) ∧ K (.c (.ref σ.next)) (σ.new (.row sc true te.size rows))
          | .c (.view id sz lo hi) => need (get σ.objs id) fun
            | .row _ _ sz' orows => ∃ sc : Bool, (sz = sz' ∧ sz = te.size) ∧ (sc = true → ∀ r ∈ (orows.take hi).drop lo, ∀ x ∈ r, isScal x = true) ∧ (∀ r ∈ (orows.take hi).drop lo, r.length = te.size) ∧
              (((orows.take hi).drop lo).length * te.bytes ≤ 140737488355328 ∧ ((orows.take hi).drop lo).length ≤ 140737488355328) ∧ K (.c (.ref σ.next)) (σ.new (.row sc true te.size ((orows.take hi).drop lo)))
            | _ => False
          | _ => False
        | _ => False
      | _ => False
    | _, _ => False
  | _ => False

theorem sound_buildEmpty (hE : TOk P E) (hw : σ.wf) {t len : Nat} {parts : Array (Nat × Operand)} (h : opF E vl (.buildSlice t len parts) σ K) : SoundB P vl ⟨dst, .buildSlice t len parts, type, pos, after, guard⟩ σ K := by
  simp only [opF] at h
  have h' := need_some h; clear h
  obtain ⟨ti, e, h⟩ := h'
  generalize hk : ti.k = k0 at h
  cases k0 <;> try exact h.elim
  rename_i el
  have h' := need_some h; clear h
  obtain ⟨te, ee, ⟨rfl, rfl⟩, h⟩ := h'
  obtain ⟨d, hd, _, hkk⟩ := (hE t ti e).desc
  rw [hk] at hkk
  simp only [TKok] at hkk
  subst hkk
  obtain ⟨i, z, hi, hs, hb, hz, hzc, hzs⟩ := (hE el te ee).info
  refine ⟨_, σ, h, σ.ext_refl, hw, ?_⟩
  intro w0 O G w a Kc Q hsub hM hops hfr hK
  have hrun : (execOp a.eval ⟨dst, .buildSlice t 0 #[], type, pos, after, guard⟩).run P w = .ok (.value (.slice (some ⟨w.heap.size, 0, none⟩) 0 0)) (w.alloc (.cells #[] el)) := by
    simp only [execOp, Instr.buildSlice, Sem.run_bind, run_underlying hd, Result.andThen_ok, sizeOf, typeInfo, run_program, hi, Sem.run_pure, hs]
    have em : Array.map (fun _ : Nat => (default : Value)) (Array.range 0) = #[] := by apply Array.ext'; simp
    simp [Instr.fill, newRow]
    rw [em]
  obtain ⟨hbl, _⟩ := newBlock w #[] el
  obtain ⟨hM', hp⟩ := hM.newL (w' := w.alloc (.cells #[] el)) σ.next [] (fun j h1 h2 => absurd h2 (by simp; omega)) hbl (by simp) (by simp) (by simp) (fun k o hk => by simp at hk)
  refine wp_value hrun (hK _ _ _ hM' hp ⟨_, rfl⟩ (fun j hj => ?_))
  rcases hj with hj | hj
  · exact .inl hj
  · simp at hj; omega

theorem sound_appendEmpty (hE : TOk P E) (hw : σ.wf) {args : Array Operand} {argTypes : Array TypeId} (h : opF E vl (.call { callee := .builtin .append, args, argTypes }) σ K) :
    SoundB P vl ⟨dst, .call { callee := .builtin .append, args, argTypes }, type, pos, after, guard⟩ σ K := by
  obtain ⟨args⟩ := args
  obtain ⟨argTypes⟩ := argTypes
  simp only [opF] at h
  split at h
  · rename_i x y t t'
    obtain ⟨rfl, h⟩ := h
    have h' := need_some h; clear h
    obtain ⟨ti, e, h⟩ := h'
    generalize hk : ti.k = k0 at h
    cases k0 <;> try exact h.elim
    rename_i el
    have h' := need_some h; clear h
    obtain ⟨te, ee, h⟩ := h'
    have h' := need_some h; clear h
    obtain ⟨vx, evx, h⟩ := h'
    split at h
    · have key : ∀ (rows : List (List T)) (sc : Bool), (rows.length * te.bytes ≤ 140737488355328 ∧ rows.length ≤ 140737488355328) → K (.c (.ref σ.next)) (σ.new (.row sc true te.size rows)) →
          (∀ (w0 : Base) O G w a, (∀ id ob, get σ.objs id = some ob → get O id = some ob) → Mem w0 O G w → OpsRep vl (Op.call { callee := .builtin .append, args := ⟨[x, y]⟩, argTypes := ⟨[t, t]⟩ }) O G w a → Nonempty (Src O G w (a.eval y) rows te.size [] sc)) →
          SoundB P vl ⟨dst, .call { callee := .builtin .append, args := ⟨[x, y]⟩, argTypes := ⟨[t, t]⟩ }, type, pos, after, guard⟩ σ K := by
        intro rows sc hbd h hsrc
        refine ⟨_, _, h, σ.ext_new _, St.wf_new σ hw _, ?_⟩
        intro w0 O G w a Kc Q hsub hM hops hfr hK
        have hx : x ∈ (Op.call { callee := .builtin .append, args := ⟨[x, y]⟩, argTypes := ⟨[t, t]⟩ }).operands := by simp [Op.operands, Call.operands]
        obtain ⟨B, hB⟩ := hops x hx _ evx
        obtain ⟨⟨scss, sF, srep, slen, sval, _, sowns, simm⟩⟩ := hsrc w0 O G w a (fun id ob ho => hsub id ob ((get_cons_other _ _ _ _ (by have := hw id ob ho; omega)).trans ho)) hM hops
        obtain ⟨A, c, hu, hcells⟩ := sval
        obtain ⟨d, hd_, _, hkk⟩ := (hE t ti e).desc
        rw [hk] at hkk
        simp only [TKok] at hkk
        subst hkk
        obtain ⟨i, z, hi, hs, hbs, hz, hzc, hzs⟩ := (hE el te ee).info
        have hnl : scss.flatten.length = rows.length * i.size := by rw [flat_length slen, repRows_length srep, hs]
        obtain ⟨v', w', hrun, hown', hgrow, hwhere⟩ := run_append (P := P) w t type el i z hd_ hi hz (by rw [hzs, hs]) (.slice B 0 0) 0 [] ⟨by simp, .inl ⟨B, rfl, rfl⟩⟩ A rows.length c scss.flatten hnl
          (fun hm => by
            obtain ⟨ad, hA, hg⟩ := hcells hm
            exact ⟨ad, hA, grid_flat slen hg⟩) (repRows_one srep) (by rw [hbs, Nat.zero_add]; exact hbd.1) (by rw [Nat.zero_add]; exact hbd.2)
        rw [Nat.zero_add, List.nil_append, hs] at hown'
        have hd0 : hd (.slice B 0 0) = [] := by cases B <;> rfl
        rw [hd0] at hgrow hwhere
        have hbl : Below w.heap.size w w' := ⟨hgrow.os, hgrow.tape, hgrow.output, hgrow.size, fun k hk => hgrow.block k hk (by simp)⟩
        have hfresh : ∀ q ∈ hd v', w.heap.size ≤ q ∧ ∃ arr e, w'.heap[q]? = some (.cells arr e (0, 0)) := fun q hq => by
          refine ⟨?_, ?_⟩
          · rcases hwhere with h | ⟨h, _⟩
            · rw [h] at hq; cases hq
            · rw [h] at hq; simp at hq; omega
          · rcases hown'.2 with ⟨A', h2, _⟩ | ⟨g, cap, cur, e', h2, hp, hh, _⟩
            · rw [h2] at hq; cases A' <;> simp [hd] at hq
            · subst h2
              cases cap with
              | zero => omega
              | succ cap => simp only [hd, List.mem_singleton] at hq; subst hq; exact ⟨_, _, hh⟩
        have hnd : (hd v').Nodup := by
          rcases hwhere with h | ⟨h, _⟩ <;> rw [h] <;> simp
        have hOn : get O σ.next = some (.row sc true te.size rows) := hsub _ _ (σ.new_get _)
        obtain ⟨hM', hp⟩ := hM.newL (w' := w') σ.next [(v', hd v')] (fun j h1 h2 => hfr j h1 (by simpa [St.new] using h2)) hbl (by simpa using hnd) (fun p hp b hb => by simp at hp; subst hp; exact hfresh b hb) (fun p hp b hb => by simp at hp; subst hp; exact hb)
          (fun k o hk ho p => by
            have hk0 : k = 0 := by simpa using hk
            subst hk0
            have hn := Gh.addL_new (G := G) (n := σ.next) (l := [(v', hd v')]) (k := 0) (by simp)
            rw [Nat.add_zero] at ho hn ⊢
            rw [hOn] at ho
            injection ho with ho
            subst ho
            have hlow : ∀ b ∈ sF, b < w.heap.size := repRows_lt rows scss sF srep
            refine ⟨scss, sF, repRows_keep rows scss sF srep (fun b hb => hbl.block b (hlow b hb)), slen, ?_, ?_⟩
            · simp only [if_true]
              rw [hn.1, hn.2.2]
              exact ⟨hown', rfl⟩
            · cases sc with
              | true =>
                have hF : sF = [] := by
                  cases hsF : sF with
                  | nil => rfl
                  | cons b r =>
                    obtain ⟨j, hj, _⟩ := (sowns rfl).2 b (by rw [hsF]; simp)
                    simp at hj
                simp only [if_true]
                rw [hn.2.1, hn.2.2, hF]
                simp
              | false =>
                simp only [Bool.false_eq_true, if_false]
                refine ⟨by rw [hn.2.1, hn.2.2]; rfl, ?_⟩
                intro j hj b hb hbj
                rcases p.hds j hj b hbj with ⟨j', hj', hb'⟩ | hge
                · exact simm b hb j' hj' (by simp) hb'
                · have := hlow b hb; omega)
        have hn := Gh.addL_new (G := G) (n := σ.next) (l := [(v', hd v')]) (k := 0) (by simp)
        rw [Nat.add_zero] at hn
        refine wp_value (w' := w') (v := v') ?_ (hK _ v' w' hM' hp ?_ (fun j hj => ?_))
        · simp only [execOp, resolve, invoke, builtin, Sem.run_bind, Sem.run_pure, Result.andThen_ok, List.map_toArray, List.map_cons, List.map_nil]
          rw [hB, hu, hrun]
          rfl
        · simp only [AV.rep]
          exact ⟨.inr ⟨by omega, by simp⟩, hn.1.symm, hown'.one⟩
        · rcases hj with hj | hj
          · exact .inl hj
          · exact .inr ⟨hj.1, by simpa [St.new] using hj.2⟩
      have hy : y ∈ (Op.call { callee := .builtin .append, args := ⟨[x, y]⟩, argTypes := ⟨[t, t]⟩ }).operands := by simp [Op.operands, Call.operands]
      obtain ⟨vy, evy, h⟩ := need_some h
      split at h
      · rename_i rows
        obtain ⟨sc, hsc, hlen, hbd, h⟩ := h
        exact key rows sc hbd h (fun w0 O G w a _ hM hops => by
          obtain ⟨F0, hr1, hr2⟩ := hops y hy _ evy
          exact src_of_T (O := O) (G := G) hr1 hr2 hlen hsc)
      · rename_i id sz lo hi
        obtain ⟨ob, eob, h⟩ := need_some h
        split at h
        · rename_i own app sz' orows
          obtain ⟨sc, ⟨rfl, rfl⟩, hsc, hlen, hbd, h⟩ := h
          exact key _ sc hbd h (fun w0 O G w a hsub hM hops => by
            have hr := hops y hy _ evy
            obtain ⟨css, F', h3, h4, h5, h6⟩ := hM.view hr (hsub _ _ eob)
            obtain ⟨A, c, h7, _, h8⟩ := h5
            exact ⟨⟨css, F', h3, fun cs hcs => (repRows_row_len h3 hlen) cs hcs, ⟨A, c, h7, fun hp => by
              obtain ⟨ad, h9, _, h10⟩ := h8 hp
              exact ⟨ad, h9, fun i cs hi j u hu => h10 i cs hi j u hu⟩⟩, by simp, fun ho => by rw [scalss_none (hsc ho) h3]; simp, fun b hb j hj _ => h6 j hj b hb⟩⟩)
        · exact h.elim
      · exact h.elim
    · exact h.elim
  · exact h.elim

theorem opF_sound (hE : TOk P E) (hw : σ.wf) {o : Oper} (h : opF E vl o.op σ K) : SoundB P vl o σ K := by
  obtain ⟨dst, op, type, pos, after, guard⟩ := o
  simp only at h
  cases op with
  | buildSlice t len parts => exact sound_buildEmpty hE hw h
  | call c =>
    obtain ⟨cal, args, argTypes⟩ := c
    cases cal with
    | value f => simp [opF] at h
    | builtin b => cases b <;> first | exact sound_appendEmpty hE hw h | (simp [opF] at h)
    | invoke r m => simp [opF] at h
  | _ => simp [opF] at h

/-- THE SOUNDNESS OF 'opE'. -/
theorem opE_sound (hE : TOk P E) (hw : σ.wf) {o : Oper} (h : opE E vl o.op σ K) : SoundE P vl o σ K := by
  obtain ⟨dst, op, type, pos, after, guard⟩ := o
  simp only at h
  cases op with
  | store t x v => exact sound_store hE hw h
  | call c =>
    obtain ⟨cal, args, argTypes⟩ := c
    cases cal with
    | value f => simp [opE] at h
    | builtin b => cases b <;> first | exact sound_append hE hw h | (simp [opE] at h)
    | invoke r m => simp [opE] at h
  | _ => simp [opE] at h
end
end Go.Vm
