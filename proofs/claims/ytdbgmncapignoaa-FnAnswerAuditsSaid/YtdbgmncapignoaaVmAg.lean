/-
  A row of numbers of the call's own, sorted in place by a function of the library: what the call does to a state.
  Conditions: the table of types fits the program ('TOk').
-/
import Derived.Test.YtdbgmncapignoaaVmAf
import Derived.Sort.Grow
namespace Go.Vm
open Go.RowKit Go.Sort

def eInt (z : Int) : List T := [.int .i64 z]
theorem repRows_ints {w : World} : ∀ {zs : List Int} {css : List (List Value)} {F : List Nat}, repRows w (zs.map eInt) css F → css = zs.map (fun z => [Value.int .i64 z]) ∧ F = []
  | [], css, F, h => by simp only [List.map_nil, repRows] at h; simp [h.1, h.2]
  | z :: zs, css, F, h => by
    simp only [List.map_cons, eInt, repRows] at h
    obtain ⟨cs, css', F1, F2, rfl, rfl, h1, h2⟩ := h
    simp only [repCells] at h1
    obtain ⟨v, cs', F3, F4, rfl, rfl, hv, h3, h4⟩ := h1
    simp only [T.rep] at hv
    obtain ⟨h5, h6⟩ := repRows_ints h2
    rw [h3, hv.1, h5, hv.2, h4, h6]
    exact ⟨rfl, rfl⟩
theorem ints_repRows {w : World} : ∀ (zs : List Int), repRows w (zs.map eInt) (zs.map (fun z => [Value.int .i64 z])) []
  | [] => by simp [repRows]
  | z :: zs => by
    have h1 : repCells w (eInt z) [Value.int .i64 z] [] := by simp [eInt, repCells, T.rep]; exact ⟨_, _, ⟨rfl, rfl⟩, _, _, ⟨rfl, rfl⟩, ⟨rfl, rfl⟩, rfl, rfl⟩
    simp only [List.map_cons, repRows]
    exact ⟨_, _, [], [], rfl, rfl, h1, ints_repRows zs⟩
theorem flat_ints (zs : List Int) : (zs.map (fun z => [Value.int .i64 z])).flatten = zs.map (Value.int .i64) := by
  induction zs with
  | nil => rfl
  | cons z zs ih => simp [ih]

theorem put_take (cur : Array Value) (o : Nat) (ts : List Int) (h : o + ts.length ≤ cur.size) : ((putCells (Value.int .i64) o ts.toArray cur).toList.drop o).take ts.length = ts.map (Value.int .i64) := by
  apply List.ext_getElem?
  intro j
  by_cases hj : j < ts.length
  · rw [List.getElem?_take_of_lt hj, List.getElem?_drop, Array.getElem?_toList]
    simp [putCells, hj, show o + j < cur.size by omega]
  · rw [List.getElem?_take_eq_none (by omega), List.getElem?_eq_none (by simp; omega)]

theorem inAt_sort {P : Program} {f : FuncId} {id : Nat} {zs ts : List Int} {σ : St} {K : AV → St → Prop} (hent : Enter P f) (hl : ts.length = zs.length)
    (hsort : ∀ (blk off cap : Nat) (w : World), Holds (Value.int .i64) w blk off zs.toArray → blk < w.heap.size → Calls P f #[.slice (some ⟨blk, off, none⟩) zs.length cap] w fun e w' =>
      e = .returned (.tuple #[]) ∧ ∃ n os, w' = grow (putRow (Value.int .i64) (Sort.ahead w n) blk off ts.toArray) os)
    (hnone : ∀ (p : Option Addr) (cap : Nat) (w : World), Calls P f #[.slice p 0 cap] w fun e w' => e = .returned (.tuple #[]) ∧ w' = w)
    (hg : get σ.objs id = some (.row true true 1 (zs.map eInt)))
    (hk : K (.tup []) ⟨σ.env, Vm.put σ.objs id (.row true true 1 (ts.map eInt)), σ.next⟩) : InAt P f [.c (.ref id)] σ K := by
  refine ⟨hent, fun w0 G w vs R hM hwf hrep hfr hR => ?_⟩
  simp only [repAVs, AV.rep] at hrep
  obtain ⟨v, vs', rfl, ⟨hA, hφ, _⟩, rfl⟩ := hrep
  have hlv : Lv σ.objs G id := ⟨hA, _, hg⟩
  obtain ⟨css, F', r1, r2, r3, r4⟩ := hM.obs id _ hA hg
  simp only [if_true] at r3 r4
  obtain ⟨rfl, rfl⟩ := repRows_ints r1
  rw [flat_ints, List.length_map] at r3
  obtain ⟨⟨q1, q2⟩, q3⟩ := r3
  rw [List.append_nil] at r4
  have hwf' : St.wf ⟨σ.env, Vm.put σ.objs id (.row true true 1 (ts.map eInt)), σ.next⟩ := wf_put hwf (hwf id _ hg)
  have fin : ∀ w', w'.os = w.os → w'.tape = w.tape → w'.output = w.output → w.heap.size ≤ w'.heap.size → (∀ b, b < w.heap.size → b ∉ G.h id → w'.heap[b]? = w.heap[b]?) →
      RowOwn w' (G.φ id) ts.length 1 (ts.map (Value.int .i64)) → (∀ b ∈ G.h id, ∃ arr e, w'.heap[b]? = some (.cells arr e (0, 0))) → R (.returned (.tuple #[])) w' := by
    intro w' h1 h2 h3 h4 h5 h6 h7
    obtain ⟨hM', hp⟩ := Mem.step (G' := G) (O' := Vm.put σ.objs id (.row true true 1 (ts.map eInt))) (w' := w') hM (fun j => Lv σ.objs G j ∧ j ≠ id) (fun j => j = id)
      (fun j h => ⟨h, rfl⟩) ⟨rfl, rfl⟩ (fun j h => ⟨h.1, get_put_other _ _ _ _ h.2, rfl, rfl⟩)
      (fun j h => by
        by_cases e : j = id
        · exact .inr e
        · obtain ⟨ha, o, ho⟩ := h
          rw [get_put_other _ _ _ _ e] at ho
          exact .inl ⟨⟨ha, o, ho⟩, e⟩)
      h1 h2 h3 h4 (fun b hb hn => h5 b hb (fun hbi => hn id hlv (fun h => h.2 rfl) hbi)) (fun j hj => by subst hj; exact hM.nodup j hlv) (fun i j hi hj hn => absurd (hi.trans hj.symm) hn)
      (fun j hj b hb => by
        subst hj
        exact ⟨.inr ⟨j, hlv, fun h => h.2 rfl, hb⟩, h7 b (by rw [r4] at hb; exact hb)⟩)
      (fun j hj b hb => by
        subst hj
        exact ⟨by rw [r4]; exact hb, .inr ⟨j, hlv, hb⟩⟩)
      (fun j o hj _ ho _ => by
        subst hj
        rw [get_put_same] at ho
        injection ho with ho
        subst ho
        refine ⟨ts.map (fun z => [Value.int .i64 z]), [], ints_repRows ts, fun cs hcs => ?_, ?_, by simp only [if_true]; rw [List.append_nil]; exact r4⟩
        · obtain ⟨z, _, rfl⟩ := List.mem_map.1 hcs; rfl
        · simp only [if_true]
          rw [flat_ints, List.length_map]
          exact ⟨h6, q3⟩)
    refine hR _ _ _ G _ w' hk hwf' hM' hp ?_ hfr
    simp only [AV.rep, repAVs]
    exact ⟨[], rfl, rfl⟩
  have same : zs.length = 0 → R (.returned (.tuple #[])) w := fun h0 => by
    have ht : ts = [] := List.eq_nil_of_length_eq_zero (by omega)
    have hz : zs = [] := List.eq_nil_of_length_eq_zero h0
    subst ht hz
    refine fin w rfl rfl rfl (Nat.le_refl _) (fun _ _ _ => rfl) ⟨q1, q2⟩ (fun b hb => ?_)
    exact (hM.lo id hlv b (by rw [r4]; exact hb)).2
  rw [hφ]
  rcases q2 with ⟨A, hv, hn⟩ | ⟨g, o, cap, cur, e, hv, hp, hh, hn, hm, hs, ht⟩
  · rw [hv]
    exact (hnone A 0 w).mono fun ex w' ⟨h1, h2⟩ => by subst h1 h2; exact same hn
  · rw [hv]
    rw [Nat.mul_one] at hs ht
    have hgs : g < w.heap.size := (Array.getElem?_eq_some_iff.1 hh).1
    obtain ⟨c, rfl⟩ : ∃ c, cap = c + 1 := ⟨cap - 1, by omega⟩
    have hH : Holds (Value.int .i64) w g o zs.toArray := by
      intro j hj
      have hj' : j < zs.length := by simpa using hj
      refine ⟨?_, by simp [World.frozen?, hh]⟩
      have h1 : ((cur.toList.drop o).take zs.length)[j]? = (zs.map (Value.int .i64))[j]? := by rw [ht]
      rw [List.getElem?_take_of_lt hj', List.getElem?_drop] at h1
      simp only [World.cell?, hh]
      simp only [Option.isSome_none, Bool.false_eq_true, if_false]
      rw [← Array.getElem?_toList, h1]
      simp [hj']
    refine (hsort g o (c + 1) w hH hgs).mono fun ex w' ⟨h1, n, os, h2⟩ => ?_
    subst h1 h2
    have hblk : (grow (putRow (Value.int .i64) (Sort.ahead w n) g o ts.toArray) os).heap[g]? = some (.cells (putCells (Value.int .i64) o ts.toArray cur) e (0, 0)) := by
      rw [heap_grow_old _ _ (by simpa [putRow, mapBlock, Sort.ahead] using hgs)]
      simp [putRow, mapBlock, Sort.ahead, Array.getElem?_modify, hh, onCells]
    have hhd : G.h id = [g] := by rw [q3, hv]; rfl
    refine fin _ rfl rfl rfl (by simp [grow, putRow, mapBlock, Sort.ahead]) (fun b hb hn => ?_) ?_ (fun b hb => ?_)
    · rw [heap_grow_old _ _ (by simpa [putRow, mapBlock, Sort.ahead] using hb)]
      have : g ≠ b := fun e => hn (by rw [hhd, e]; simp)
      simp [putRow, mapBlock, Sort.ahead, Array.getElem?_modify, this]
    · refine ⟨by simp, .inr ⟨g, o, c + 1, _, e, by rw [hv, hl], by omega, hblk, by rw [hl]; exact hn, hm, by simp [putCells, hs], ?_⟩⟩
      rw [Nat.mul_one]
      exact put_take cur o ts (by rw [hl, hs]; omega)
    · have : b = g := by rw [hhd] at hb; simpa using hb
      subst this
      exact ⟨_, _, hblk⟩
end Go.Vm
