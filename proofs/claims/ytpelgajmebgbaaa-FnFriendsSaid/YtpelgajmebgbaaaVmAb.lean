/-
  A function that is proved by hand at known values, walked into by the evaluator.
  Conditions: none.
-/
import Derived.Test.YtpelgajmebgbaaaVmAa
namespace Go.Vm
open Go.RowKit

/-- What a call owes whose results read as 'rs', in new memory. -/
def Owes (rs : List RV) (w : World) (e : Ending) (w' : World) : Prop :=
  ∃ us F v, e = .returned v ∧ retOf us v ∧ repRVs w' rs us F ∧ F.Nodup ∧
    (∀ b ∈ F, w.heap.size ≤ b ∧ ∃ arr e, w'.heap[b]? = some (.cells arr e (0, 0))) ∧ Below w.heap.size w w'

theorem inAt_of {P : Program} {f : FuncId} {avs : List AV} {vs0 : List Value} {rs : List RV} {σ : St} {K : AV → St → Prop} (hent : Enter P f)
    (hfn : ∀ w, Calls P f vs0.toArray w (Owes rs w)) (hav : ∀ O G w vs, repAVs O G w avs vs → vs = vs0) (hk : K (impR σ rs).1 ⟨σ.env, (impR σ rs).2.objs, (impR σ rs).2.next⟩) : InAt P f avs σ K := by
  refine ⟨hent, fun w0 G w vs R hm hwf hrep hfr hR => ?_⟩
  obtain rfl := hav _ _ _ _ hrep
  refine (hfn w).mono fun e w' hpost => ?_
  obtain ⟨us, F, v, rfl, hret, hus, hnd, hfresh, hb⟩ := hpost
  obtain ⟨l, imp⟩ := impR_sound hwf hus hret
  have hext := imp.ext
  have hnl : ∀ j, G.A j → get (impR σ rs).2.objs j = get σ.objs j := fun j hj => hext.objs j (hfr j hj)
  have hp : Pres σ.objs G w (impR σ rs).2.objs G w := ⟨fun id h => ⟨h, rfl⟩, fun id hl b hb => .inl ⟨id, ⟨hl.1, by obtain ⟨ob, hob⟩ := hl.2; exact ⟨ob, by rw [← hnl id hl.1]; exact hob⟩⟩, hb⟩, fun _ _ _ => rfl, Nat.le_refl _, rfl, rfl⟩
  have hlv : ∀ id, Lv (impR σ rs).2.objs G id → Lv σ.objs G id := fun id hl => ⟨hl.1, by obtain ⟨ob, hob⟩ := hl.2; exact ⟨ob, by rw [← hnl id hl.1]; exact hob⟩⟩
  have hM : Mem w0 (impR σ rs).2.objs G w :=
    ⟨hm.below, hm.base, hm.fix, fun id ob ha ho => Ob.rep_pres hp rfl rfl rfl (hm.hds id (hlv id ⟨ha, ob, ho⟩)) (fun _ _ => rfl) ob (hm.obs id ob ha (by rw [← hnl id ha]; exact ho)),
      fun id hl => hm.nodup id (hlv id hl), fun i j hi hj => hm.disj i j (hlv i hi) (hlv j hj), fun id hl => hm.lo id (hlv id hl), fun id hl => hm.hds id (hlv id hl)⟩
  have hlt : ∀ j, σ.next ≤ j → j < σ.next + l.length → ¬ G.A j := fun j h1 _ h3 => by have := hfr j h3; omega
  obtain ⟨hM', hp'⟩ := hM.newL σ.next l hlt hb (by rw [imp.flat]; exact hnd) (fun p hp b hbp => hfresh b (by rw [← imp.flat]; exact List.mem_flatten.2 ⟨p.2, List.mem_map.2 ⟨p, hp, rfl⟩, hbp⟩)) imp.hds
    (fun k o hk ho p => by
      have hn := Gh.addL_new (G := G) (n := σ.next) hk
      exact imp.obs k hk o ho _ _ hn.1 hn.2)
  refine hR _ _ _ _ v w' hk imp.wf hM' (hp.trans hp') (imp.rep _ _ fun k hk => ?_) (fun j hj => ?_)
  · have hn := Gh.addL_new (G := G) (n := σ.next) hk
    exact ⟨.inr ⟨by omega, by omega⟩, hn.1⟩
  · show j < (impR σ rs).2.next
    rw [imp.next]
    rcases hj with hj | hj
    · have := hfr j hj
      omega
    · omega

/-- 'nil', a number. -/
theorem nil_int_vals {n : Int} {O : List (Nat × Ob)} {G : Gh} {w : World} {vs : List Value} (h : repAVs O G w [.c .nil, .c (.t (.int .i64 n))] vs) : vs = [.slice none 0 0, .int .i64 n] := by
  simp only [repAVs] at h
  obtain ⟨v, vs', rfl, h1, u, us, rfl, h2, rfl⟩ := h
  have h1' : v = .slice none 0 0 := by simpa only [AV.rep, C.rep] using h1
  rw [h1', int_of h2]
/-- A new row, of which nothing is shown yet. -/
theorem owes_empty {w w' : World} {v : Value} {sz : Nat} (h : (v = .slice none 0 0 ∧ w' = w) ∨ ∃ cap cur e, v = .slice (some ⟨w.heap.size, 0, none⟩) 0 cap ∧ 0 < cap ∧ cap ≤ maxLen ∧ cur.size = cap * sz ∧ w' = w.drew.alloc (.cells cur e)) :
    Owes [.one (.l sz [])] w (.returned v) w' := by
  rcases h with ⟨rfl, rfl⟩ | ⟨cap, cur, e, rfl, hp, hm, hs, rfl⟩
  · refine ⟨[.slice none 0 0], [], _, rfl, rfl, ?_, by simp, by simp, Below.refl _ _⟩
    refine ⟨_, [], [], [], rfl, rfl, ?_, rfl, rfl⟩
    exact ⟨[], [], by simp [repRows], by simp, ⟨by simp, .inl ⟨none, rfl, rfl⟩⟩, by simp [hd]⟩
  · have hh := Go.heap_alloc_new w.drew (.cells cur e)
    obtain ⟨c, rfl⟩ : ∃ c, cap = c + 1 := ⟨cap - 1, by omega⟩
    refine ⟨[_], [w.heap.size], _, rfl, rfl, ?_, by simp, fun b hb => ?_, ?_⟩
    · refine ⟨_, [], [w.heap.size], [], rfl, by simp, ?_, rfl, rfl⟩
      exact ⟨[], [], by simp [repRows], by simp, ⟨by simp, .inr ⟨w.heap.size, c + 1, cur, e, rfl, hp, hh, Nat.zero_le _, hm, hs, by simp⟩⟩, by simp [hd]⟩
    · simp only [List.mem_singleton] at hb
      subst hb
      exact ⟨Nat.le_refl _, cur, e, hh⟩
    · exact ⟨rfl, rfl, rfl, by simp, fun k hk => Below.heap_alloc w.drew _ k hk⟩
end Go.Vm
