/-
  From a row's reading of the arguments to the data of the contracts; from a law's contract to what its row asks.
  Conditions: the table of types fits the program ('TOk').
-/
import Derived.Test.YteecgbgdmfjogaaGreatVmV
import Derived.Carry
import Derived.ChangeSame
import Derived.OpenShut
namespace Go.Vm
open Go.RowKit Go.ChangeShapes Go.WideShapes

/-- A type's cells open as data. -/
def Opens (P : Program) (t : TypeId) {α : Type} (f : α → List T) (ok : α → Prop) : Prop :=
  ∀ (H : Type) (enc : TypeId × Value → H) (w : World) (spare : Nat → Bool) (held : Bool) (fuel : Nat) (cs : List Value) (x : DataW H × List MemPlace), DataW.trod enc P w 0 spare held fuel t cs = some x → ∃ a F, ok a ∧ repCells w (f a) cs F

section
variable {P : Program} {t e : TypeId} {α β : Type} {f : α → List T} {ok : α → Prop}

theorem opens_i64 (hu : P.underlying t = some (.int .i64)) : Opens P t eI okI := by
  intro H enc w spare held fuel cs x h
  obtain ⟨n, rfl, _, hw⟩ := DataW.trod_int hu h
  refine ⟨n, [], ?_, by simp only [eI, repCells, T.rep]; exact ⟨_, [], [], [], rfl, rfl, ⟨rfl, rfl⟩, rfl, rfl⟩⟩
  simp [Lit.wf, IntKind.min, IntKind.max, IntKind.signed, IntKind.bits] at hw
  simp only [okI]
  omega
theorem opens_u8 (hu : P.underlying t = some (.int .u8)) : Opens P t eU okU := by
  intro H enc w spare held fuel cs x h
  obtain ⟨n, rfl, _, hw⟩ := DataW.trod_int hu h
  simp [Lit.wf, IntKind.min, IntKind.max, IntKind.signed, IntKind.bits] at hw
  have hn : ((UInt8.ofNat n.toNat).toNat : Int) = n := by rw [UInt8.toNat_ofNat']; omega
  exact ⟨UInt8.ofNat n.toNat, [], trivial, by simp only [eU, repCells, T.rep, hn]; exact ⟨_, [], [], [], rfl, rfl, ⟨rfl, rfl⟩, rfl, rfl⟩⟩
theorem opens_bool (hu : P.underlying t = some .bool) : Opens P t eB okB := by
  intro H enc w spare held fuel cs x h
  obtain ⟨n, rfl, _⟩ := DataW.trod_bool hu h
  exact ⟨n, [], trivial, by simp only [eB, repCells, T.rep]; exact ⟨_, [], [], [], rfl, rfl, ⟨rfl, rfl⟩, rfl, rfl⟩⟩
theorem opens_str (hu : P.underlying t = some .string) : Opens P t eS okS := by
  intro H enc w spare held fuel cs x h
  obtain ⟨s, rfl, _, hs⟩ := DataW.trod_string hu h
  exact ⟨s, [], hs, by simp only [eS, repCells, T.rep]; exact ⟨_, [], [], [], rfl, rfl, ⟨rfl, rfl⟩, rfl, rfl⟩⟩

theorem opens_slice (hu : P.underlying t = some (.slice e)) (hsz : P.cellsOf e ≠ 0) (h : Opens P e f ok) : Opens P t (eL f) (okL ok) := by
  intro H enc w spare held fuel cs x hx
  rcases DataW.trod_slice hu hx with ⟨rfl, _⟩ | ⟨a, len, cap, elems, rest, n, _, rfl, _, _, hlc, hcm, hel, hall, _⟩
  · refine ⟨[], [], ⟨by simp, by simp⟩, ?_⟩
    simp only [eL, List.map_nil, repCells, T.rep]
    exact ⟨_, [], [], [], rfl, rfl, ⟨none, 0, rfl, Nat.le_refl _, .inl ⟨trivial, rfl⟩⟩, rfl, rfl⟩
  · have key : ∀ k, k ≤ len → ∃ (l : List α) (css : List (List Value)) (F : List Nat), l.length = k ∧ (∀ b ∈ l, ok b) ∧ repRows w (l.map f) css F ∧
        ∀ (i : Nat) cs, css[i]? = some cs → cs.length = P.cellsOf e ∧ ∀ (j : Nat) u, cs[j]? = some u → w.cell? (a.add (i * P.cellsOf e + j)) = some u := by
      intro k
      induction k with
      | zero => intro _; exact ⟨[], [], [], rfl, by simp, by simp [repRows], by simp⟩
      | succ k ih =>
        intro hk
        obtain ⟨l, css, F, h1, h2, h3, h4⟩ := ih (by omega)
        have hy : elems[k]? = some (elems[k]'(by omega)) := List.getElem?_eq_getElem _
        have hb := hall k (by omega)
        rw [hy, Option.bind_eq_some_iff] at hb
        obtain ⟨cs', hc, hd⟩ := hb
        obtain ⟨_, hl, hcell⟩ := World.cells?_some hc
        obtain ⟨b, F', hok, hr⟩ := h H enc w spare held n cs' _ hd
        have hcl := repRows_length h3
        rw [List.length_map, h1] at hcl
        refine ⟨l ++ [b], css ++ [cs'], F ++ F', by simp [h1], ?_, ?_, ?_⟩
        · intro c hc
          rcases List.mem_append.1 hc with hc | hc
          · exact h2 c hc
          · simp at hc; subst hc; exact hok
        · rw [List.map_append]
          refine repRows_append h3 ?_
          simp only [List.map_cons, List.map_nil, repRows]
          exact ⟨cs', [], F', [], rfl, by simp, hr, rfl, rfl⟩
        · intro i cs hi
          rcases Nat.lt_or_ge i css.length with hlt | hge
          · rw [List.getElem?_append_left hlt] at hi
            exact h4 i cs hi
          · rw [List.getElem?_append_right hge] at hi
            have hi0 : i - css.length = 0 := by have := (List.getElem?_eq_some_iff.1 hi).1; simpa using this
            rw [hi0] at hi
            simp at hi
            subst hi
            have hik : i = k := by omega
            subst hik
            refine ⟨hl, fun j u hu => ?_⟩
            have hj := (List.getElem?_eq_some_iff.1 hu).1
            rw [← add_of_add, hcell j (by omega)]
            exact hu
    obtain ⟨l, css, F, h1, h2, h3, h4⟩ := key len (Nat.le_refl _)
    have hcl := repRows_length h3
    rw [List.length_map] at hcl
    by_cases hne : l = []
    · subst hne
      simp at h1
      subst h1
      refine ⟨[], [], ⟨by simp, by simp⟩, ?_⟩
      simp only [eL, List.map_nil, repCells, T.rep]
      exact ⟨_, [], [], [], rfl, rfl, ⟨some a, cap, rfl, Nat.zero_le _, .inl ⟨trivial, rfl⟩⟩, rfl, rfl⟩
    · refine ⟨l, a.block :: F, ⟨by omega, h2⟩, ?_⟩
      simp only [eL, repCells, T.rep]
      refine ⟨_, [], a.block :: F, [], rfl, by simp, ⟨some a, cap, by simp [h1], by simp; omega, .inr ⟨a, css, F, P.cellsOf e, by simpa using hne, rfl, ?_, rfl, h3, h4⟩⟩, rfl, rfl⟩
      have hpos : 0 < css.length := by
        rw [hcl]
        exact List.length_pos_iff.2 hne
      obtain ⟨h5, h6⟩ := h4 0 css[0] (by simp [hpos])
      have h7 := h6 0 (css[0][0]'(by omega)) (by simp)
      simp only [Nat.zero_mul, Nat.zero_add, addr_add0] at h7
      unfold World.cell? at h7
      rcases Nat.lt_or_ge a.block w.heap.size with hlt | hge
      · exact hlt
      · rw [Array.getElem?_eq_none hge] at h7
        cases h7

/-- The fields of a struct, from a place on. -/
def OpensF (P : Program) (fs : List Field) (off tot : Nat) {α : Type} (f : α → List T) (ok : α → Prop) : Prop :=
  ∀ (H : Type) (enc : TypeId × Value → H) (w : World) (spare : Nat → Bool) (held : Bool) (n : Nat) (cs : List Value) (xs : List (DataW H × List MemPlace)), cs.length = tot → xs.length = fs.length →
    (∀ (i : Nat) fd, fs[i]? = some fd → DataW.trod enc P w 0 spare held n fd.type ((cs.drop fd.offset).take (P.cellsOf fd.type)) = xs[i]?) → ∃ a F, ok a ∧ repCells w (f a) (cs.drop off) F

theorem opensF_one {fd : Field} {off tot : Nat} (ho : fd.offset = off) (ht : off + P.cellsOf fd.type = tot) (h : Opens P fd.type f ok) : OpensF P [fd] off tot f ok := by
  intro H enc w spare held n cs xs hl hx hall
  have := hall 0 fd rfl
  rw [List.getElem?_eq_getElem (by simp at hx; omega)] at this
  obtain ⟨a, F, h1, h2⟩ := h H enc w spare held n _ _ this
  rw [ho, List.take_of_length_le (by simp; omega)] at h2
  exact ⟨a, F, h1, h2⟩
theorem opensF_cons {fd : Field} {fs : List Field} {off tot : Nat} {f2 : β → List T} {ok2 : β → Prop} (ho : fd.offset = off) (h : Opens P fd.type f ok) (h2 : OpensF P fs (off + P.cellsOf fd.type) tot f2 ok2) :
    OpensF P (fd :: fs) off tot (fun p : α × β => f p.1 ++ f2 p.2) (fun p => ok p.1 ∧ ok2 p.2) := by
  intro H enc w spare held n cs xs hl hx hall
  have h0 := hall 0 fd rfl
  cases xs with
  | nil => simp at hx
  | cons x xs =>
    obtain ⟨a, F, h1, h3⟩ := h H enc w spare held n _ x (by simpa using h0)
    obtain ⟨b, F', h4, h5⟩ := h2 H enc w spare held n cs xs hl (by simpa using hx) (fun i g hg => by simpa using hall (i + 1) g (by simpa using hg))
    rw [ho] at h3
    refine ⟨(a, b), F ++ F', ⟨h1, h4⟩, ?_⟩
    have := repCells_append h3 h5
    rwa [← List.drop_drop, List.take_append_drop] at this
theorem opens_struct {fs : Array Field} (hu : P.underlying t = some (.struct fs)) (h : OpensF P fs.toList 0 (P.cellsOf t) f ok) : Opens P t f ok := by
  intro H enc w spare held fuel cs x hx
  obtain ⟨xs, n, _, _, h1, h2, h3⟩ := DataW.trod_struct hu hx
  have := h H enc w spare held n cs xs h1 (by simpa using h2) (fun i fd hi => h3 i fd (by simpa using hi))
  simpa using this

theorem Opens.conv {f' : β → List T} {ok' : β → Prop} (h : Opens P t f ok) (g : α → β) (hf : ∀ a, f a = f' (g a)) (hok : ∀ a, ok a → ok' (g a)) : Opens P t f' ok' := by
  intro H enc w spare held fuel cs x hx
  obtain ⟨a, F, h1, h2⟩ := h H enc w spare held fuel cs x hx
  exact ⟨g a, F, hok a h1, by rw [← hf]; exact h2⟩

/-! ### Arguments -/
theorem arg_agg {fs : Array Field} (hu : P.underlying t = some (.struct fs)) (h : Opens P t f ok) {H : Type} {enc : TypeId × Value → H} {w : World} {b : Nat} {sp : Nat → Bool} {held : Bool} {v : Value} {d : DataW H} {ps : List MemPlace}
    (hval : Value.okWide P w .any b t v) (hd : DataW.Trod enc P w 0 sp held t v d ps) : ∃ a F, ok a ∧ (V.agg (f a)).rep w v F := by
  obtain ⟨n, hn⟩ := hd
  obtain ⟨a, F, h1, h2⟩ := h H enc w sp held n _ _ hn
  simp only [Value.okWide, hu] at hval
  obtain ⟨cs, rfl, _⟩ := hval
  exact ⟨a, F, h1, cs.toList, by simp, by simpa [Value.cells] using h2⟩

theorem cell_not_agg {w : World} {b : Nat} {cs : Array Value} (h : Cell.okWide P w .any b t (.agg cs)) : False := by
  unfold Cell.okWide at h
  split at h
  all_goals first | (rename_i e; cases e; done) | skip
  all_goals simp_all [Cell.ok]

theorem arg_one {g : α → T} (hu : ∀ fs, P.underlying t ≠ some (.struct fs)) (hu2 : ∀ n e, P.underlying t ≠ some (.array n e)) (hfg : ∀ a, f a = [g a]) (h : Opens P t f ok) {H : Type} {enc : TypeId × Value → H} {w : World} {b : Nat} {sp : Nat → Bool} {held : Bool} {v : Value} {d : DataW H} {ps : List MemPlace}
    (hval : Value.okWide P w .any b t v) (hd : DataW.Trod enc P w 0 sp held t v d ps) : ∃ a F, ok a ∧ (V.one (g a)).rep w v F := by
  obtain ⟨n, hn⟩ := hd
  obtain ⟨a, F, h1, h2⟩ := h H enc w sp held n _ _ hn
  rw [hfg] at h2
  simp only [repCells] at h2
  obtain ⟨u, cs', F1, F2, h3, rfl, h4, rfl, rfl⟩ := h2
  have hv : v.cells = #[v] := by
    cases v with
    | agg cs =>
      exfalso
      unfold Value.okWide at hval
      split at hval
      · exact hu _ ‹_›
      · exact hu2 _ _ ‹_›
      · exact cell_not_agg hval
    | _ => rfl
  rw [hv] at h3
  simp at h3
  subst h3
  exact ⟨a, F1, h1, h4⟩

/-! ### The law -/
theorem trodAll_stays {H : Type} {enc : TypeId × Value → H} {sp : Nat → Bool} (hl : laidOutB P = true) {W W' : World} (hb : Below W.heap.size W W') : ∀ {ts : List TypeId} {vs : List Value} {ds : List (DataW H)} {ps : List MemPlace}, (∀ t ∈ ts, P.readableRec t = true ∧ t < P.types.size) →
    DataW.TrodAll enc P W 0 (fun _ => true) true ts vs ds ps → (∀ x ∈ ps, x.block < W.heap.size) → (∀ x ∈ ps, sp x.block = true) → DataW.TrodAll enc P W' 0 sp true ts vs ds ps
  | [], [], [], _, _, h, _, _ => h
  | t :: ts, v :: vs, d :: ds, _, hr, ⟨p, q, h1, h2, e⟩, hlt, hs => by
    subst e
    refine ⟨p, q, WideElems.Trod_stays hl (hr t (by simp)).1 (hr t (by simp)).2 h1 (fun x hx => hb.same (hlt x (by simp [hx]))) (fun x hx => hs x (by simp [hx])), ?_, rfl⟩
    exact trodAll_stays hl hb (fun u hu => hr u (by simp [hu])) h2 (fun x hx => hlt x (by simp [hx])) (fun x hx => hs x (by simp [hx]))

theorem law_close {H : Type} {enc : TypeId × Value → H} {fn : Func} {fid : FuncId} {s : ChangeSpec} {apart fresh handsOn again : Bool} {W : World} {args : Array Value} {ds gs : List (DataW H)} {before : List MemPlace} {tb : TypeId}
    (hl : laidOutB P = true) (hr : (fn.params.toList.all fun t => P.readableRec t && decide (t < P.types.size)) = true) (hvs : s.vars = []) (hrt : fn.resultTypes = #[tb]) (htb : P.underlying tb = some .bool)
    (hs : s.fn H ds = { results := [.lit (.bool true)], args := ds }) (hW : DataW.Whole enc P fn.params.toList s.vars apart W args.toList ds gs before)
    (hf : ∃ as, repVs W as args.toList ∧ FnAt P fid as [.one (.s (.bool true))]) :
    Calls P fid args W fun e W' => ∃ v, e = .returned v ∧ s.post enc P fn apart fresh handsOn again W args v W' := by
  have hlt := hW.lt
  have hW0 := hW
  obtain ⟨p, q, hA, hV, rfl, hz, hn⟩ := hW
  rw [hvs] at hV
  obtain ⟨rfl, rfl⟩ := trodVars_none hV
  rw [List.append_nil] at hlt hz hn hW0
  obtain ⟨as, hrep, hfn⟩ := hf
  have hcall := hfn.2 W args.toList hrep
  refine Calls.mono hcall (fun e W' h => ?_)
  obtain ⟨us, F, v, rfl, hret, hus, _, _, hb⟩ := h
  have hv : v = .bool true := by
    cases us with
    | nil => obtain ⟨_, _, _, _, h, _⟩ := hus; cases h
    | cons u us =>
      obtain ⟨u', us', F1, F2, h1, rfl, h2, h3, rfl⟩ := hus
      injection h1 with h1 h4
      subst h1 h4
      subst h3
      have h2' : u = .bool true := h2.1.1
      subst h2'
      exact hret
  subst hv
  have hre : ∀ t ∈ fn.params.toList, P.readableRec t = true ∧ t < P.types.size := fun t ht => by
    have := List.all_eq_true.1 hr t ht
    simpa using this
  have hargs : ∀ sp : Nat → Bool, (∀ x ∈ p, sp x.block = true) → DataW.TrodAll enc P W' 0 sp true fn.params.toList args.toList (s.fn H (ds ++ [])).args p := fun sp hsp => by
    rw [List.append_nil, hs]
    exact trodAll_stays hl hb hre hA hlt hsp
  have hres : ∀ (b : Nat) (sp : Nat → Bool) (hd : Bool), DataW.TrodAll enc P W' b sp hd fn.resultTypes.toList ((Value.bool true).resultList fn.resultTypes.size) (s.fn H (ds ++ [])).results [] := fun b sp hd => by
    rw [List.append_nil, hs, hrt]
    exact trodAll_cons_mk (shut_bool htb _) trodAll_mk0
  have hvars : ∀ sp : Nat → Bool, DataW.TrodVars enc P W' sp s.vars (s.fn H (ds ++ [])).vars [] := fun sp => by
    rw [List.append_nil, hs, hvs]
    rfl
  refine ⟨_, rfl, ds, [], p, [], p, [], hW0, hres _ _ _, hargs _ (fun x hx => by simpa using hlt x hx), hvars _, World.keptBut_mono (fun x hx => ⟨hx, .inr (by simpa using hx)⟩) (hb.frame (· ∈ p)), fun _ => ?_⟩
  refine ⟨ok_one hrt rfl (okWide_bool_mk htb _), _, _, ([] ++ p) ++ [], ⟨[] ++ p, [], trodAll_append (hargs _ (fun _ _ => rfl)) (hres _ _ _), hvars _, rfl, fun b off hp => ?_, fun ha => ?_⟩, fun x hx _ => by simpa using hx⟩
  · have hin : MemPlace.cell b off ∈ p := by simpa using hp
    rw [hb.frozen (hlt _ hin)]
    exact hz b off hin
  · simpa using hn ha
end
end Go.Vm
