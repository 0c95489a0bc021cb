/-
  Plain law: worlds that are new, that a message is submitted to, whose server is corrupted, whose client crashes, are valid.
  Conditions: none.
-/
import Derived.Test.YteecgbgdmfjogaaGreatFnGx
import Derived.Test.YteecgbgdmfjogaaGreatFnNwS
namespace Go.Proofs.YteecgbgdmfjogaaGreat
set_option maxHeartbeats 4000000
set_option maxRecDepth 20000
open Go.Vm Go.RowKit
attribute [local irreducible] FnAt MutAt InAt JAt CurAt FnE CurE RegAt

theorem eqL_self {α : Type} {p : α → α → Bool} : ∀ {l : List α}, (∀ x ∈ l, p x x = true) → eqL p l l = true
  | [], _ => rfl
  | x :: l, h => by
    show (p x x && eqL p l l) = true
    rw [h x (by simp), eqL_self (fun y hy => h y (by simp [hy]))]; rfl
theorem clientEq_self (c : DClient) : clientEq c c = true := by simp [clientEq, sameOwner]
theorem worldEq_self (w : DWorld) : worldEq w w = true := by
  have h1 : archEq w.Archive w.Archive = true := by
    simp only [archEq, Bool.and_eq_true, decide_eq_true_eq, true_and]
    exact eqL_self (fun x _ => by simp [roundEq])
  have h2 : eqL servEq w.Servers w.Servers = true := eqL_self (fun s _ => by
    simp only [servEq, Bool.and_eq_true, decide_eq_true_eq, true_and]
    exact eqL_self (fun x _ => by simp [shareEq]))
  have h3 : eqL devEq w.Devices w.Devices = true := eqL_self (fun d _ => by simp [devEq, clientEq_self])
  unfold worldEq worldHead
  rw [h1, h2, h3]
  simp
theorem allN_iff {p : Nat → Bool} : ∀ {k i : Nat}, allN p k i = true ↔ ∀ j, i ≤ j → j < i + k → p j = true
  | 0, i => ⟨fun _ j h1 h2 => by omega, fun _ => rfl⟩
  | k + 1, i => by
    show (p i && allN p k (i + 1)) = true ↔ _
    rw [Bool.and_eq_true, allN_iff]
    constructor
    · rintro ⟨h1, h2⟩ j h3 h4
      by_cases e : j = i
      · rw [e]; exact h1
      · exact h2 j (by omega) (by omega)
    · exact fun h => ⟨h i (Nat.le_refl _) (by omega), fun j h1 h2 => h j (by omega) (by omega)⟩
theorem xor_two {i : Nat} (h : i < 8) : (i ^^^ 1) ^^^ 1 = i := by
  have : i = 0 ∨ i = 1 ∨ i = 2 ∨ i = 3 ∨ i = 4 ∨ i = 5 ∨ i = 6 ∨ i = 7 := by omega
  rcases this with rfl | rfl | rfl | rfl | rfl | rfl | rfl | rfl <;> rfl
theorem xor_ne {i : Nat} (h : i < 8) : i ^^^ 1 ≠ i := by
  have : i = 0 ∨ i = 1 ∨ i = 2 ∨ i = 3 ∨ i = 4 ∨ i = 5 ∨ i = 6 ∨ i = 7 := by omega
  rcases this with rfl | rfl | rfl | rfl | rfl | rfl | rfl | rfl <;> decide
theorem xor_half {i : Nat} (h : i < 8) : (i ^^^ 1) / 2 = i / 2 := by
  have : i = 0 ∨ i = 1 ∨ i = 2 ∨ i = 3 ∨ i = 4 ∨ i = 5 ∨ i = 6 ∨ i = 7 := by omega
  rcases this with rfl | rfl | rfl | rfl | rfl | rfl | rfl | rfl <;> rfl
structure WOk (w : DWorld) : Prop where
  srv : ∀ (i : Nat) (h : i < w.Servers.length), servOk w.Servers[i] = true ∧ w.Servers[i].Id = i ∧ w.Servers[i].Rows = w.Rows ∧ w.Servers[i].Round = w.Round ∧ w.Servers[i].Received.length = 0
  dev : ∀ (i : Nat) (h : i < w.Devices.length) (h2 : i ^^^ 1 < w.Devices.length), devOk w.Devices[i] = true ∧ w.Devices[i].Live.Id = i ∧ w.Devices[i].Live.Friend = ((i ^^^ 1 : Nat) : Int) ∧ w.Devices[i].Live.Key = w.Devices[i ^^^ 1].Live.Key ∧ w.Devices[i].Live.Next ≤ w.Round
  hd : worldHd w = true
theorem worldHd_len {w : DWorld} (h : worldHd w = true) : (2 ≤ w.Servers.length ∧ w.Servers.length ≤ 4) ∧ w.Devices.length % 2 = 0 ∧ 2 ≤ w.Devices.length ∧ w.Devices.length ≤ 8 := by
  simp only [worldHd, evenIn, Bool.and_eq_true, inR_iff, decide_eq_true_eq] at h
  omega
theorem xor_in {w : DWorld} (h : worldHd w = true) {i : Nat} (hi : i < w.Devices.length) : i ^^^ 1 < w.Devices.length := by
  have := worldHd_len h
  exact xor1_lt _ (by omega) (by omega) i hi
theorem worldOk_iff (w : DWorld) : worldOk w = true ↔ WOk w := by
  unfold worldOk
  rw [Bool.and_eq_true, Bool.and_eq_true, allN_iff, allN_iff]
  constructor
  · rintro ⟨⟨h1, h2⟩, h3⟩
    refine ⟨fun i hi => ?_, fun i hi hi2 => ?_, h3⟩
    · have := h1 i (by omega) (by omega)
      rw [servIn_eq w hi] at this
      simp only [Bool.and_eq_true, decide_eq_true_eq] at this
      exact ⟨this.1.1.1.1, this.1.1.1.2, this.1.1.2, this.1.2, this.2⟩
    · have := h2 i (by omega) (by omega)
      rw [devIn_eq w hi hi2] at this
      simp only [Bool.and_eq_true, decide_eq_true_eq] at this
      exact ⟨this.1.1.1.1, this.1.1.1.2, this.1.1.2, this.1.2, this.2⟩
  · intro h
    refine ⟨⟨fun i _ hi => ?_, fun i _ hi => ?_⟩, h.hd⟩
    · rw [servIn_eq w (by omega)]
      have := h.srv i (by omega)
      simp only [Bool.and_eq_true, decide_eq_true_eq]
      exact ⟨⟨⟨⟨this.1, this.2.1⟩, this.2.2.1⟩, this.2.2.2.1⟩, this.2.2.2.2⟩
    · have hx := xor_in h.hd (i := i) (by omega)
      rw [devIn_eq w (by omega) hx]
      have := h.dev i (by omega) hx
      simp only [Bool.and_eq_true, decide_eq_true_eq]
      exact ⟨⟨⟨⟨this.1, this.2.1⟩, this.2.2.1⟩, this.2.2.2.1⟩, this.2.2.2.2⟩
/-- One device changed, its owner the same. -/
theorem WOk.setDev {w : DWorld} (h : WOk w) {c : Nat} (hc : c < w.Devices.length) {d : DDevice} (h1 : devOk d = true) (h2 : d.Live.Id = w.Devices[c].Live.Id) (h3 : d.Live.Friend = w.Devices[c].Live.Friend) (h4 : d.Live.Key = w.Devices[c].Live.Key) (h5 : d.Live.Next ≤ w.Devices[c].Live.Next) :
    WOk { w with Devices := w.Devices.set c d } := by
  have hl := worldHd_len h.hd
  have hx : ∀ i, i < w.Devices.length → i ^^^ 1 < w.Devices.length := fun i hi => xor_in h.hd hi
  have key : ∀ (i : Nat) (hi : i < w.Devices.length) (hi' : i < (w.Devices.set c d).length), (w.Devices.set c d)[i].Live.Id = w.Devices[i].Live.Id ∧ (w.Devices.set c d)[i].Live.Friend = w.Devices[i].Live.Friend ∧ (w.Devices.set c d)[i].Live.Key = w.Devices[i].Live.Key ∧ (w.Devices.set c d)[i].Live.Next ≤ w.Devices[i].Live.Next ∧ devOk (w.Devices.set c d)[i] = true := by
    intro i hi hi'
    by_cases e : c = i
    · subst e
      have eg : (w.Devices.set c d)[c] = d := List.getElem_set_self _
      rw [eg]
      exact ⟨h2, h3, h4, h5, h1⟩
    · have eg : (w.Devices.set c d)[i] = w.Devices[i] := List.getElem_set_ne e _
      rw [eg]
      exact ⟨rfl, rfl, rfl, Int.le_refl _, (h.dev i hi (hx i hi)).1⟩
  refine ⟨h.srv, fun i hi hi2 => ?_, ?_⟩
  · have hi0 : i < w.Devices.length := by simpa using hi
    have hi1 := hx i hi0
    obtain ⟨k1, k2, k3, k4, k5⟩ := key i hi0 hi
    obtain ⟨_, _, g3, _⟩ := key (i ^^^ 1) hi1 hi2
    obtain ⟨d1, d2, d3, d4, d5⟩ := h.dev i hi0 hi1
    exact ⟨k5, k1.trans d2, k2.trans d3, by show (w.Devices.set c d)[i].Live.Key = (w.Devices.set c d)[i ^^^ 1].Live.Key; rw [k3, g3]; exact d4, by show (w.Devices.set c d)[i].Live.Next ≤ w.Round; omega⟩
  · have := h.hd
    simp only [worldHd, evenIn, List.length_set] at this ⊢
    exact this
theorem devOk_submit {d : DDevice} {b : List UInt8} (h : submitOk d b = true) : devOk (submitD d b) = true ∧ submitD d b = ⟨queue d.Live b, queue d.Saved b⟩ := by
  have e : submitD d b = ⟨queue d.Live b, queue d.Saved b⟩ := by unfold submitD; rw [if_pos h]
  refine ⟨?_, e⟩
  rw [e]
  simp only [submitOk, queued, Bool.and_eq_true] at h
  obtain ⟨⟨h1, h2, h3⟩, h4, h5⟩ := h
  simp only [devOk, sameOwner, Bool.and_eq_true, decide_eq_true_eq, beq_iff_eq] at h1 ⊢
  obtain ⟨⟨⟨⟨⟨k1, k2⟩, k3⟩, k4⟩, k5⟩, k6⟩ := h1
  refine ⟨⟨⟨⟨⟨h3, h5⟩, ⟨⟨⟨⟨k3.1.1.1.1, k3.1.1.1.2⟩, k3.1.1.2⟩, k3.1.2⟩, ?_⟩⟩, k4⟩, k5⟩, k6⟩
  show d.Live.Submitted ++ [b] = d.Saved.Submitted ++ [b]
  rw [k3.2]
theorem devOk_crash {d : DDevice} (h : devOk d = true) : devOk (crashD d) = true ∧ (crashD d).Live.Id = d.Live.Id ∧ (crashD d).Live.Friend = d.Live.Friend ∧ (crashD d).Live.Key = d.Live.Key ∧ (crashD d).Live.Next ≤ d.Live.Next := by
  have e : crashD d = ⟨d.Saved, d.Saved⟩ := by unfold crashD; rw [if_pos h]
  rw [e]
  simp only [devOk, sameOwner, Bool.and_eq_true, decide_eq_true_eq, beq_iff_eq] at h ⊢
  obtain ⟨⟨⟨⟨⟨k1, k2⟩, k3⟩, k4⟩, k5⟩, k6⟩ := h
  refine ⟨⟨⟨⟨⟨⟨k2, k2⟩, by simp⟩, Int.le_refl _⟩, Int.le_refl _⟩, by simp [isPre]⟩, k3.1.1.1.1.symm, k3.1.1.1.2.symm, k3.1.1.2.symm, k5⟩
theorem submit_ok {w : DWorld} {c : Int} {b : List UInt8} (h : subOk w c b = true) : ∃ (hc : c.toNat < w.Devices.length), 0 ≤ c ∧ worldOk w = true ∧ submitOk w.Devices[c.toNat] b = true ∧ submitW w c b = { w with Devices := w.Devices.set c.toNat (submitD w.Devices[c.toNat] b) } ∧ worldOk (submitW w c b) = true := by
  have e : submitW w c b = setDev w c (submitD · b) := by unfold submitW; rw [if_pos h]
  simp only [subOk, crashOk, hasCl, Bool.and_eq_true, inR_iff] at h
  obtain ⟨⟨h1, h2⟩, h3⟩ := h
  have hc : c.toNat < w.Devices.length := by omega
  rw [List.getElem?_eq_getElem hc] at h3
  have h3' : submitOk w.Devices[c.toNat] b = true := h3
  rw [setDev_in hc] at e
  refine ⟨hc, h2.1, h1, h3', e, ?_⟩
  rw [e, worldOk_iff]
  obtain ⟨d1, d2⟩ := devOk_submit h3'
  exact ((worldOk_iff w).1 h1).setDev hc d1 (by rw [d2]; rfl) (by rw [d2]; rfl) (by rw [d2]; rfl) (by rw [d2]; exact Int.le_refl _)
theorem crash_ok {w : DWorld} {c : Int} (hw : worldOk w = true) (h0 : 0 ≤ c) (hc : c.toNat < w.Devices.length) : crashOk w c = true ∧ worldOk (crashW w c) = true := by
  have h : crashOk w c = true := by
    simp only [crashOk, hasCl, Bool.and_eq_true, inR_iff]
    exact ⟨hw, h0, by omega⟩
  refine ⟨h, ?_⟩
  unfold crashW
  rw [if_pos h, setDev_in hc, worldOk_iff]
  have hW := (worldOk_iff w).1 hw
  have hd := (hW.dev c.toNat hc (xor_in hW.hd hc)).1
  obtain ⟨k1, k2, k3, k4, k5⟩ := devOk_crash hd
  exact hW.setDev hc k1 k2 k3 k4 k5
theorem servOk_behavior {s : DServer} {b : Int} (h : servOk s = true) (hb : 0 ≤ b ∧ b ≤ 3) : servOk { s with Behavior := b } = true := by
  simp only [servOk, servHead, Bool.and_eq_true, inR_iff] at h ⊢
  exact ⟨h.1, ⟨⟨h.2.1.1.1, hb⟩, h.2.1.2⟩, h.2.2⟩
theorem servOk_beh {s : DServer} (h : servOk s = true) : 0 ≤ s.Behavior ∧ s.Behavior ≤ 3 := by
  simp only [servOk, servHead, Bool.and_eq_true, inR_iff] at h
  exact h.2.1.1.2
def setB (s : DServer) (b : Int) : DServer := ⟨s.Id, s.Rows, s.Round, s.Received, b⟩
def setS (w : DWorld) (l : List DServer) : DWorld := ⟨w.Rows, l, w.Devices, w.Archive, w.Master, w.Seed, w.Round, w.Replaced, w.Cancelled⟩
theorem corrupt_ok {w : DWorld} {b : Int} (hw : worldOk w = true) (hb : 0 ≤ b ∧ b ≤ 3) : ∃ (h0 : 0 < w.Servers.length), corrOk w 0 b = true ∧ corruptW w 0 b = setS w (w.Servers.set 0 (setB w.Servers[0] b)) ∧ worldOk (corruptW w 0 b) = true := by
  have hW := (worldOk_iff w).1 hw
  have hl := worldHd_len hW.hd
  have h0 : 0 < w.Servers.length := by omega
  have h : corrOk w 0 b = true := by
    simp only [corrOk, Bool.and_eq_true, inR_iff]
    exact ⟨⟨hw, by omega, by omega⟩, hb⟩
  have e : corruptW w 0 b = setS w (w.Servers.set 0 (setB w.Servers[0] b)) := by
    have e1 : corruptW w 0 b = setS w (match w.Servers[0]? with | some v => w.Servers.set 0 (setB v b) | none => w.Servers) := by
      unfold corruptW
      rw [if_pos h]; rfl
    rw [e1, List.getElem?_eq_getElem h0]
  refine ⟨h0, h, e, ?_⟩
  rw [e, worldOk_iff]
  refine ⟨fun i hi => ?_, hW.dev, ?_⟩
  · have hi0 : i < w.Servers.length := by simpa [setS] using hi
    have hs := hW.srv i hi0
    show servOk (w.Servers.set 0 (setB w.Servers[0] b))[i] = true ∧ (w.Servers.set 0 (setB w.Servers[0] b))[i].Id = i ∧ (w.Servers.set 0 (setB w.Servers[0] b))[i].Rows = w.Rows ∧ (w.Servers.set 0 (setB w.Servers[0] b))[i].Round = w.Round ∧ (w.Servers.set 0 (setB w.Servers[0] b))[i].Received.length = 0
    by_cases e0 : 0 = i
    · subst e0
      have eg : (w.Servers.set 0 (setB w.Servers[0] b))[0] = setB w.Servers[0] b := List.getElem_set_self _
      rw [eg]
      exact ⟨servOk_behavior hs.1 hb, hs.2⟩
    · have eg : (w.Servers.set 0 (setB w.Servers[0] b))[i] = w.Servers[i] := List.getElem_set_ne e0 _
      rw [eg]
      exact hs
  · have := hW.hd
    simp only [worldHd, evenIn, setS, List.length_set] at this ⊢
    exact this
/-- A server corrupted and mended. -/
theorem corrupt_back {w : DWorld} (hw : worldOk w = true) (h0 : 0 < w.Servers.length) : corruptW (corruptW w 0 3) 0 w.Servers[0].Behavior = w ∧ corrOk (corruptW w 0 3) 0 w.Servers[0].Behavior = true ∧ corrOk w 0 3 = true := by
  have hs := ((worldOk_iff w).1 hw).srv 0 h0
  obtain ⟨_, k1, k2, k3⟩ := corrupt_ok hw (b := 3) (by decide)
  obtain ⟨h1, g1, g2, _⟩ := corrupt_ok k3 (servOk_beh hs.1)
  have gen : ∀ (X : DWorld) (h : 0 < X.Servers.length), X = setS w (w.Servers.set 0 (setB w.Servers[0] 3)) → setS X (X.Servers.set 0 (setB X.Servers[0] w.Servers[0].Behavior)) = w := by
    intro X h e
    subst e
    show setS w ((w.Servers.set 0 (setB w.Servers[0] 3)).set 0 (setB (w.Servers.set 0 (setB w.Servers[0] 3))[0] w.Servers[0].Behavior)) = w
    have eg : (w.Servers.set 0 (setB w.Servers[0] 3))[0] = setB w.Servers[0] 3 := List.getElem_set_self _
    rw [eg, List.set_set]
    show setS w (w.Servers.set 0 w.Servers[0]) = w
    rw [List.set_getElem_self]
    rfl
  exact ⟨g2.trans (gen _ h1 k2), g1, k1⟩
theorem newW_bad {n s p sd : Int} (h : newWOk n s p = false) : newWorld n s p sd = ⟨0, [], [], ⟨0, []⟩, 0, 0, 0, [], 0⟩ := by
  unfold newWorld; rw [h]; rfl
theorem worldOk_zero : worldOk ⟨0, [], [], ⟨0, []⟩, 0, 0, 0, [], 0⟩ = false := by
  cases h : worldOk ⟨0, [], [], ⟨0, []⟩, 0, 0, 0, [], 0⟩ with
  | false => rfl
  | true =>
    have := worldHd_len ((worldOk_iff _).1 h).hd
    simp at this
theorem orOne_in (k : Int) (l : List Int) : 1 ≤ orOne (khash k l) ∧ orOne (khash k l) ≤ 2147483646 := by
  have := khash_range k l
  unfold orOne
  split <;> omega
theorem newCl_eq {s : Int} {i : Nat} (h : i < 8) : newCl s i = ⟨i, ((i ^^^ 1 : Nat) : Int), orOne (khash s [199, ((i / 2 : Nat) : Int)]), khash s [211, (i : Int)], [], 0, [], 0⟩ := by
  have hx := xor1_run (i := i) (by omega)
  have hl : i ^^^ 1 < 8 := by
    have : i = 0 ∨ i = 1 ∨ i = 2 ∨ i = 3 ∨ i = 4 ∨ i = 5 ∨ i = 6 ∨ i = 7 := by omega
    rcases this with rfl | rfl | rfl | rfl | rfl | rfl | rfl | rfl <;> decide
  have hne := xor_ne h
  have hd : IntKind.i64.wrap ((i : Int).tdiv 2) = ((i / 2 : Nat) : Int) := by
    rw [Int.tdiv_eq_ediv_of_nonneg (by omega), w64_ok (by omega) (by omega)]; omega
  have ho := orOne_in s [199, ((i / 2 : Nat) : Int)]
  unfold newCl newClient
  rw [hx, hd, if_pos]
  simp only [okC, Bool.and_eq_true, Bool.not_eq_true', inR_iff, decide_eq_false_iff_not]
  refine ⟨⟨⟨by omega, by omega⟩, by omega⟩, ho⟩
theorem devOk_new {s : Int} {i : Nat} (h : i < 8) : devOk (newDev s i) = true := by
  have hl : i ^^^ 1 < 8 := by
    have : i = 0 ∨ i = 1 ∨ i = 2 ∨ i = 3 ∨ i = 4 ∨ i = 5 ∨ i = 6 ∨ i = 7 := by omega
    rcases this with rfl | rfl | rfl | rfl | rfl | rfl | rfl | rfl <;> decide
  have hne := xor_ne h
  have ho := orOne_in s [199, ((i / 2 : Nat) : Int)]
  have hc : clientOk (newCl s i) = true := by
    rw [newCl_eq h]
    simp only [clientOk, okC, bodiesOk, Bool.and_eq_true, Bool.not_eq_true', inR_iff, decide_eq_false_iff_not, decide_eq_true_eq, List.any_nil, List.length_nil]
    refine ⟨⟨⟨⟨⟨⟨⟨by omega, by omega⟩, by omega⟩, ho⟩, by simp⟩, by simp⟩, by simp⟩, by simp⟩
  unfold newDev devOk
  simp [hc, sameOwner, isPre]
theorem newW_ok {n s p sd : Int} (h : newWOk n s p = true) : worldOk (newWorld n s p sd) = true := by
  have e : newWorld n s p sd = ⟨n, (List.range s.toNat).map (newServ n), (List.range (2 * p).toNat).map (newDev sd), newArch n, orOne (khash sd [197]), sd, 0, [], 0⟩ := by unfold newWorld; rw [if_pos h]
  rw [e, worldOk_iff]
  simp only [newWOk, Bool.and_eq_true, inR_iff] at h
  obtain ⟨⟨h1, h2⟩, h3⟩ := h
  have ho := orOne_in sd [197]
  refine ⟨fun i hi => ?_, fun i hi hi2 => ?_, ?_⟩
  · simp only [List.length_map, List.length_range] at hi
    simp only [List.getElem_map, List.getElem_range]
    have en : newServ n i = ⟨i, n, 0, [], 0⟩ := by
      unfold newServ newServer
      rw [if_pos]
      simp only [Bool.and_eq_true, inR_iff]
      omega
    rw [en]
    refine ⟨?_, rfl, rfl, rfl, rfl⟩
    simp only [servOk, servHead, Bool.and_eq_true, inR_iff, decide_eq_true_eq, List.length_nil]
    exact ⟨rfl, ⟨⟨⟨by omega, h1⟩, by decide⟩, by decide⟩, by simp⟩
  · simp only [List.length_map, List.length_range] at hi hi2
    simp only [List.getElem_map, List.getElem_range]
    have hi8 : i < 8 := by omega
    refine ⟨devOk_new hi8, ?_⟩
    show (newCl sd i).Id = i ∧ (newCl sd i).Friend = ((i ^^^ 1 : Nat) : Int) ∧ (newCl sd i).Key = (newCl sd (i ^^^ 1)).Key ∧ (newCl sd i).Next ≤ 0
    rw [newCl_eq hi8, newCl_eq (show i ^^^ 1 < 8 by omega), xor_half hi8]
    exact ⟨rfl, rfl, rfl, Int.le_refl _⟩
  · have ea : newArch n = ⟨n, []⟩ := by unfold newArch; rw [if_pos (inR_iff.2 h1)]
    rw [ea]
    simp only [worldHd, evenIn, archOk, lastRound, Bool.and_eq_true, inR_iff, decide_eq_true_eq, List.length_map, List.length_range, List.length_nil]
    refine ⟨⟨⟨⟨⟨⟨⟨⟨h1, by omega⟩, by omega, by omega⟩, ⟨rfl, h1⟩, by decide⟩, trivial⟩, by simp⟩, ho⟩, by decide⟩, by decide⟩
end Go.Proofs.YteecgbgdmfjogaaGreat
