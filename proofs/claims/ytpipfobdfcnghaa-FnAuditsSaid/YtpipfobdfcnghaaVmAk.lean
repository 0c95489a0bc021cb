/-
  A cell of a row of a row that is written in place: what memory shows then.
  Conditions: the table of types fits the program ('TOk').
-/
import Derived.Test.YtpipfobdfcnghaaVmAj
namespace Go.Vm
open Go.RowKit

/-- An own row whose first row is a row of bytes: where these lie, and what memory shows when the first byte is written. -/
theorem nest_mem {w0 : Base} {O : List (Nat × Ob)} {G : Gh} {w : World} (hM : Mem w0 O G w) {r : Nat} {app : Bool} {rest ir : List (List T)} {v : Int} (hA : G.A r) (eo : get O r = some (.row true app 1 ([T.lst ([T.int .u8 v] :: ir)] :: rest))) :
    ∃ (ad : Addr) (c : Nat) (ad0 : Addr) (c0 g k : Nat) (cur : Array Value) (el : TypeId),
      G.φ r = .slice (some ad) (rest.length + 1) c ∧ w.cell? (ad.add 0) = some (.slice (some ad0) (ir.length + 1) c0) ∧ w.cell? (ad0.add 0) = some (.int .u8 v) ∧
      w.heap[g]? = some (.cells cur el (0, 0)) ∧ ad0.add 0 = ⟨g, k, none⟩ ∧ k + 1 ≤ cur.size ∧
      ∀ y : Int, Mem w0 (filtD safeOb [] (Vm.put O r (.row true app 1 ([T.lst ([T.int .u8 y] :: ir)] :: rest)))) G (w.setRow g (cur.toList.take k ++ [Value.int .u8 y] ++ cur.toList.drop (k + 1)).toArray) ∧
        ∀ av u, safeAV av = true → av.rep O G w u → av.rep (filtD safeOb [] (Vm.put O r (.row true app 1 ([T.lst ([T.int .u8 y] :: ir)] :: rest)))) G (w.setRow g (cur.toList.take k ++ [Value.int .u8 y] ++ cur.toList.drop (k + 1)).toArray) u := by
  have hlv : Lv O G r := ⟨hA, _, eo⟩
  obtain ⟨css, F', r1, r2, r3, r4⟩ := hM.obs r _ hA eo
  simp only [if_true] at r4
  have hweak : RowWeak w (G.φ r) (rest.length + 1) 1 css := by
    cases app with
    | true => simp only [if_true] at r3; exact r3.1.weak r2
    | false => simp only [Bool.false_eq_true, if_false] at r3; exact r3.1
  obtain ⟨FA, Fi, FB, vs, hF', c1, c2, hset⟩ := repRows_set (i := 0) r1 rfl
  simp only [repCells] at c2
  obtain ⟨u, vs', F1, F2, rfl, hFi, t1, rfl, rfl⟩ := c2
  simp only [T.rep] at t1
  obtain ⟨A0, c0, hu, hcap, h0 | ⟨ad0, css0, F0, sz, _, hA0, hblk, hF1, hrr, hgrid⟩⟩ := t1
  · exact absurd h0.1 (by simp)
  subst hA0
  obtain ⟨A, c, hφ, hnc, hcells⟩ := hweak
  obtain ⟨ad, rfl, _, hgr⟩ := hcells (by omega)
  have hc0 : w.cell? (ad.add 0) = some u := hgr 0 _ c1 0 u rfl
  have hrr' := hrr
  simp only [repRows, repCells, T.rep] at hrr
  obtain ⟨cs0, css1, G1, G2, rfl, hF0, ⟨b0, bs, H1, H2, rfl, hG1, ⟨rfl, rfl⟩, rfl, rfl⟩, hir⟩ := hrr
  have hsz : sz = 1 := by have := (hgrid 0 [Value.int .u8 v] rfl).1; simpa using this.symm
  subst hsz
  have hc1 : w.cell? (ad0.add 0) = some (.int .u8 v) := (hgrid 0 [Value.int .u8 v] rfl).2 0 _ rfl
  have hb : ad0.block ∈ G.Φ r := by rw [r4, hF', hFi, hF1]; simp
  obtain ⟨_, arr, e, hh⟩ := hM.lo r hlv ad0.block hb
  have hlen0 : css1.length = ir.length := repRows_length hir
  have hW0 : RowWeak w (.slice (some ad0) (ir.length + 1) c0) (ir.length + 1) 1 ([Value.int .u8 v] :: css1) :=
    ⟨some ad0, c0, rfl, hcap, fun _ => ⟨ad0, rfl, ⟨arr, e, hh⟩, fun i cs hi j x hx => (hgrid i cs hi).2 j x hx⟩⟩
  have hlens : ∀ cs ∈ ([Value.int .u8 v] :: css1 : List (List Value)), cs.length = 1 := fun cs hcs => by
    obtain ⟨i, hi, rfl⟩ := List.mem_iff_getElem.1 hcs
    exact (hgrid i _ (List.getElem?_eq_getElem hi)).1
  have key : ∀ y : Int, ∃ g cur el k, w.heap[g]? = some (.cells cur el (0, 0)) ∧ hd (.slice (some ad0) (ir.length + 1) c0) = [g] ∧ Value.pointer (some (ad0.add 0)) = .pointer (some ⟨g, k, none⟩) ∧ k + 1 ≤ cur.size ∧
      RowWeak (w.setRow g (cur.toList.take k ++ [Value.int .u8 y] ++ cur.toList.drop (k + 1)).toArray) (.slice (some ad0) (ir.length + 1) c0) (ir.length + 1) 1 ([Value.int .u8 y] :: css1) := fun y => by
    have := weak_store (off := 0) (us := [Value.int .u8 y]) (i := 0) hW0 hlens rfl rfl (by simp) (by simp) (by simp [hlen0])
    simpa using this
  obtain ⟨g, cur, el, k, k1, k2, k3, k4, _⟩ := key 0
  have hka : ad0.add 0 = ⟨g, k, none⟩ := by simpa using k3
  have hgb : g = ad0.block := (congrArg Addr.block hka).symm
  refine ⟨ad, c, ad0, c0, g, k, cur, el, hφ, by rw [hc0, hu]; simp, hc1, k1, hka, k4, fun y => ?_⟩
  obtain ⟨g', cur', el', k', q1, q2, q3, q4, q5⟩ := key y
  have hka' : ad0.add 0 = ⟨g', k', none⟩ := by simpa using q3
  have eg : g' = g := by rw [hka] at hka'; injection hka' with h1 _ _; exact h1.symm
  have ek : k' = k := by rw [hka] at hka'; injection hka' with _ h1 _; exact h1.symm
  subst eg
  subst ek
  rw [k1] at q1
  injection q1 with q1
  injection q1 with q1 _ _
  subst q1
  have hnew := setRow_heap w g' cur (cur.toList.take k' ++ [Value.int .u8 y] ++ cur.toList.drop (k' + 1)).toArray el (0, 0) k1
  generalize hw' : w.setRow g' (cur.toList.take k' ++ [Value.int .u8 y] ++ cur.toList.drop (k' + 1)).toArray = w' at q5 hnew ⊢
  have hoth : ∀ b, b ≠ g' → w'.heap[b]? = w.heap[b]? := fun b hb => by rw [← hw']; exact setRow_other w g' b _ hb
  have hnd := hM.nodup r hlv
  rw [r4, hF', hFi, hF1] at hnd
  have hall : G.Φ r = G.h r ++ (FA ++ ((ad0.block :: F0) ++ []) ++ FB) := by rw [r4, hF', hFi, hF1]
  have hapart : ∀ b, b ∈ G.h r ++ FA ++ F0 ++ FB → b ≠ g' := by
    intro b hbb e
    subst e
    rw [hgb] at hbb
    have e1 : G.h r ++ (FA ++ ((ad0.block :: F0) ++ []) ++ FB) = (G.h r ++ FA) ++ (ad0.block :: (F0 ++ FB)) := by simp
    rw [e1] at hnd
    obtain ⟨_, n2, n3⟩ := List.nodup_append.1 hnd
    obtain ⟨n4, _⟩ := List.nodup_cons.1 n2
    simp only [List.mem_append] at hbb n4
    rcases hbb with ((h | h) | h) | h
    · exact n3 ad0.block (by simp [h]) ad0.block (by simp) rfl
    · exact n3 ad0.block (by simp [h]) ad0.block (by simp) rfl
    · exact n4 (.inl h)
    · exact n4 (.inr h)
  obtain ⟨A5, c5, e5, _, h5⟩ := q5
  obtain ⟨ad5, e6, _, hg5⟩ := h5 (by omega)
  injection e5 with e5 _ _
  rw [e6] at e5
  injection e5 with e5
  subst e5
  have hkeep0 : ∀ b ∈ F0, w'.heap[b]? = w.heap[b]? := fun b hbb => hoth b (hapart b (by simp [hbb]))
  have hT : (T.lst ([T.int .u8 y] :: ir)).rep w' u (ad0.block :: F0) := by
    simp only [T.rep]
    refine ⟨some ad0, c0, by rw [hu]; simp, by simpa using hcap, .inr ⟨ad0, [Value.int .u8 y] :: css1, F0, 1, by simp, rfl, ?_, rfl, ?_, fun i cs hi => ⟨?_, hg5 i cs hi⟩⟩⟩
    · have : g' < w'.heap.size := (Array.getElem?_eq_some_iff.1 hnew).1
      rw [← hgb]; exact this
    · simp only [repRows, repCells, T.rep]
      exact ⟨[Value.int .u8 y], css1, [], G2, rfl, by rw [hF0, hG1]; simp, ⟨.int .u8 y, [], [], [], rfl, rfl, ⟨rfl, rfl⟩, rfl, rfl⟩, repRows_keep _ _ _ hir (fun b hbb => hkeep0 b (by rw [hF0]; simp [hbb]))⟩
    · cases i with
      | zero => simp at hi; subst hi; rfl
      | succ i => exact hlens cs (List.mem_of_getElem? (i := i + 1) (by simpa using hi))
  have hrow' : repRows w' ([T.lst ([T.int .u8 y] :: ir)] :: rest) css (FA ++ ((ad0.block :: F0) ++ []) ++ FB) := by
    have hcr : repCells w' [T.lst ([T.int .u8 y] :: ir)] [u] ((ad0.block :: F0) ++ []) := by
      simp only [repCells]
      exact ⟨u, [], ad0.block :: F0, [], rfl, by simp, hT, rfl, rfl⟩
    have := hset _ _ _ w' hcr (fun b hbb => hoth b (hapart b (by rcases List.mem_append.1 hbb with h | h <;> simp [h])))
    rwa [show css.set 0 [u] = css from by
      apply List.ext_getElem?
      intro q
      rw [List.getElem?_set]
      split
      · rename_i e; subst e
        split
        · exact c1.symm
        · rename_i hq; have := (List.getElem?_eq_some_iff.1 c1).1; omega
      · rfl] at this
  have hbel : BelowM [g'] w w' := by
    refine ⟨by rw [← hw']; rfl, by rw [← hw']; rfl, by rw [← hw']; rfl, by rw [← hw']; simp [World.setRow], fun b _ hn => hoth b (by simpa using hn)⟩
  refine Mem.mut (G' := G) (O' := filtD safeOb [] (Vm.put O r (.row true app 1 ([T.lst ([T.int .u8 y] :: ir)] :: rest)))) hM [r] (by simpa using hlv) [g'] (fun b hbb => ⟨r, by simp, by
    obtain rfl := List.mem_singleton.1 hbb
    rw [hgb]; exact hb⟩) hbel (fun j hj => ⟨hj, rfl⟩) (fun j hj => hj) ⟨rfl, rfl⟩ (fun j _ => ⟨rfl, rfl⟩)
    (fun j o hj ho => by
      obtain ⟨_, h1, h2⟩ := get_filtD ho
      rw [get_put_other _ _ _ _ (by simpa using hj)] at h1
      exact ⟨h1, h2⟩)
    (fun j hj => by obtain rfl := List.mem_singleton.1 hj; exact hM.nodup j hlv)
    (fun j q hj hq hjq => by
      obtain rfl := List.mem_singleton.1 hj
      obtain rfl := List.mem_singleton.1 hq
      exact absurd rfl hjq)
    (fun j hj b hbb => by
      obtain rfl := List.mem_singleton.1 hj
      refine ⟨.inl ⟨j, by simp, hbb⟩, ?_⟩
      by_cases e1 : b = g'
      · subst e1; exact ⟨_, _, hnew⟩
      · obtain ⟨_, arr, e, hh⟩ := hM.lo j hlv b hbb
        exact ⟨arr, e, by rw [hoth b e1]; exact hh⟩)
    (fun j hj b hbb => by obtain rfl := List.mem_singleton.1 hj; exact hM.hds j hlv b hbb)
    (fun j hj o ho => by
      obtain rfl := List.mem_singleton.1 hj
      obtain ⟨_, h1, _⟩ := get_filtD ho
      rw [get_put_same] at h1
      injection h1 with h1
      subst h1
      refine ⟨css, _, hrow', r2, ?_, by simp only [if_true]; rw [r4, hF', hFi, hF1]⟩
      have hk2 : ∀ b ∈ G.h j, w'.heap[b]? = w.heap[b]? := fun b hbb => hoth b (hapart b (by simp [hbb]))
      cases app with
      | true => simp only [if_true] at r3 ⊢; exact ⟨r3.1.keep (fun b hbb => hk2 b (by rw [r3.2]; exact hbb)), r3.2⟩
      | false =>
        simp only [Bool.false_eq_true, if_false] at r3 ⊢
        rcases r3.2 with h5 | ⟨h5, _⟩
        · exact ⟨r3.1.keep (fun b hbb => hk2 b (by rw [h5]; exact hbb)), .inl h5⟩
        · cases h5)

/-! ### The first byte of the first row, written -/
/-- What is read on the way to it. -/
structure NestV (P : Program) (tD tL tB tU : TypeId) (w : World) (vb vr v2 vi v4 : Value) (v : Int) : Prop where
  fld : ∀ (a : Act) (x : Operand) dst ty pos af gd, a.eval x = vb → (execOp a.eval ⟨dst, .fieldAddr tD x 0, ty, pos, af, gd⟩).run P w = .ok (.value vb) w
  ldL : ∀ (a : Act) (x : Operand) dst ty pos af gd, a.eval x = vb → (execOp a.eval ⟨dst, .load tL x, ty, pos, af, gd⟩).run P w = .ok (.value vr) w
  ixL : ∀ (a : Act) (x : Operand) dst ty pos af gd, a.eval x = vr → (execOp a.eval ⟨dst, .indexAddr tL x (.const (.int .i64 0)), ty, pos, af, gd⟩).run P w = .ok (.value v2) w
  ldB : ∀ (a : Act) (x : Operand) dst ty pos af gd, a.eval x = v2 → (execOp a.eval ⟨dst, .load tB x, ty, pos, af, gd⟩).run P w = .ok (.value vi) w
  ixB : ∀ (a : Act) (x : Operand) dst ty pos af gd, a.eval x = vi → (execOp a.eval ⟨dst, .indexAddr tB x (.const (.int .i64 0)), ty, pos, af, gd⟩).run P w = .ok (.value v4) w
  ldU : ∀ (a : Act) (x : Operand) dst ty pos af gd, a.eval x = v4 → (execOp a.eval ⟨dst, .load tU x, ty, pos, af, gd⟩).run P w = .ok (.value (.int .u8 v)) w
theorem nest_vals {P : Program} {E : Nat → Option TI} (hE : TOk P E) {w0 : Base} {σ : St} {G : Gh} {nt : Nat} {a : Act} {w : World} (hR : Rel w0 σ G nt a w) {b bx r : Nat} {app : Bool} {rest ir : List (List T)} {v : Int}
    (eb : get σ.env b = some (.ptr bx 0)) (ex : get σ.objs bx = some (.box [.ref r])) (er : get σ.objs r = some (.row true app 1 ([T.lst ([T.int .u8 v] :: ir)] :: rest)))
    {tD tL tB tU : TypeId} {iD iL iB iU : TI} (hD : E tD = some iD) (hDk : ∃ l, iD.k = .st ((0, tL) :: l)) (hL : E tL = some iL) (hLk : iL.k = .sl tB) (hLa : iL.agg = false) (hB : E tB = some iB) (hBk : iB.k = .sl tU) (hBa : iB.agg = false) (hBs : iB.size = 1) (hU : E tU = some iU) (hUa : iU.agg = false) (hUs : iU.size = 1) :
    ∃ (vb vr v2 vi v4 : Value) (g k : Nat) (cur : Array Value) (el : TypeId), a.tmps.getD b undef = vb ∧ NestV P tD tL tB tU w vb vr v2 vi v4 v ∧ v4 = .pointer (some ⟨g, k, none⟩) ∧
      (∀ (a : Act) (x y : Operand) (z : Int) ty pos af gd, a.eval x = v4 → a.eval y = .int .u8 z → (execOp a.eval ⟨none, .store tU x y, ty, pos, af, gd⟩).run P w = .ok .skip (w.setRow g (cur.toList.take k ++ [Value.int .u8 z] ++ cur.toList.drop (k + 1)).toArray)) ∧
      ∀ y : Int, Mem w0 (filtD safeOb [] (Vm.put σ.objs r (.row true app 1 ([T.lst ([T.int .u8 y] :: ir)] :: rest)))) G (w.setRow g (cur.toList.take k ++ [Value.int .u8 y] ++ cur.toList.drop (k + 1)).toArray) ∧
        ∀ av u, safeAV av = true → av.rep σ.objs G w u → av.rep (filtD safeOb [] (Vm.put σ.objs r (.row true app 1 ([T.lst ([T.int .u8 y] :: ir)] :: rest)))) G (w.setRow g (cur.toList.take k ++ [Value.int .u8 y] ++ cur.toList.drop (k + 1)).toArray) u := by
  have hv := hR.env b _ eb
  simp only [AV.rep] at hv
  obtain ⟨hA, ad, hφ, hp⟩ := hv
  obtain ⟨gb, us, elb, h1, h2, h3, _, _⟩ := hR.mem.obs bx _ hA ex
  rw [hφ] at h1
  injection h1 with h1
  injection h1 with h1
  subst h1
  simp only [repCs] at h3
  obtain ⟨ur, us', rfl, h4, rfl⟩ := h3
  simp only [C.rep] at h4
  obtain ⟨hAr, hur, _⟩ := h4
  obtain ⟨ad1, c, ad0, c0, g, k, cur, el, n1, n2, n3, n4, n5, n6, n7⟩ := nest_mem hR.mem hAr er
  subst hur
  obtain ⟨dD, hdD, _, hkD⟩ := (hE tD iD hD).desc
  obtain ⟨l, hDk⟩ := hDk
  rw [hDk] at hkD
  obtain ⟨fs, rfl, hof, hss⟩ := hkD
  have ef : (fs.toList.map fun f => (f.offset, f.type))[0]? = some (0, tL) := by rw [hof]; rfl
  obtain ⟨dL, hdL, _, hkL⟩ := (hE tL iL hL).desc
  rw [hLk] at hkL
  simp only [TKok] at hkL
  subst hkL
  obtain ⟨dB, hdB, _, hkB⟩ := (hE tB iB hB).desc
  rw [hBk] at hkB
  simp only [TKok] at hkB
  subst hkB
  obtain ⟨jB, zB, hiB, hsB, _⟩ := (hE tB iB hB).info
  obtain ⟨jU, zU, hiU, hsU, _⟩ := (hE tU iU hU).info
  have c1 : ∀ (j : Nat) u, [G.φ r][j]? = some u → w.cell? (((⟨gb, 0, none⟩ : Addr).add 0).add j) = some u := fun j u hj => by
    rw [add_of_add, Nat.zero_add]; exact box_cells h2 j u hj
  have c2 : ∀ (j : Nat) u, [Value.slice (some ad0) (ir.length + 1) c0][j]? = some u → w.cell? ((ad1.add 0).add j) = some u := fun j u hj => by
    cases j with
    | zero => simp at hj; subst hj; rw [add_of_add]; exact n2
    | succ j => simp at hj
  have c3 : ∀ (j : Nat) u, [Value.int .u8 v][j]? = some u → w.cell? ((ad0.add 0).add j) = some u := fun j u hj => by
    cases j with
    | zero => simp at hj; subst hj; rw [add_of_add]; exact n3
    | succ j => simp at hj
  have hst := fun z : Int => run_storeVar (P := P) (hE tU iU hU) g k el cur w n4 (.int .u8 z) [.int .u8 z] rfl (by rw [hUs]; rfl) n6 (fun q hq => by rw [List.mem_singleton.1 hq]; rfl)
  refine ⟨_, G.φ r, .pointer (some (ad1.add 0)), .slice (some ad0) (ir.length + 1) c0, .pointer (some (ad0.add 0)), g, k, cur, el, hp, ⟨?_, ?_, ?_, ?_, ?_, ?_⟩, by rw [n5], ?_, n7⟩
  · intro a x dst ty pos af gd hx
    have run := run_fieldAt (P := P) hdD ef hss ((⟨gb, 0, none⟩ : Addr).add 0) w
    simp [execOp, hx, run, add_of_add]
  · intro a x dst ty pos af gd hx
    exact run_load_op hx ((run_loadVar (hE tL iL hL) _ w _ c1).2 hLa _ rfl)
  · intro a x dst ty pos af gd hx
    have run := run_indexAt (P := P) hdL hiB ad1 (rest.length + 1) c .i64 0 (by omega) w
    simp only [Int.natCast_zero, Nat.zero_mul] at run
    rw [n1] at hx
    have hc : a.eval (.const (.int .i64 0)) = .int .i64 0 := rfl
    simp [execOp, hx, hc, run]
  · intro a x dst ty pos af gd hx
    exact run_load_op hx ((run_loadVar (hE tB iB hB) _ w _ c2).2 hBa _ rfl)
  · intro a x dst ty pos af gd hx
    have run := run_indexAt (P := P) hdB hiU ad0 (ir.length + 1) c0 .i64 0 (by omega) w
    simp only [Int.natCast_zero, Nat.zero_mul] at run
    have hc : a.eval (.const (.int .i64 0)) = .int .i64 0 := rfl
    simp [execOp, hx, hc, run]
  · intro a x dst ty pos af gd hx
    exact run_load_op hx ((run_loadVar (hE tU iU hU) _ w _ c3).2 hUa _ rfl)
  · intro a x y z ty pos af gd hx hy
    have run := hst z
    rw [n5] at hx
    simp [execOp, Instr.storeAt, Instr.sureAddr, hx, hy, run]

theorem run_xorU {P : Program} {a : Act} {w : World} {x : Operand} {v : Int} {tU tU' : TypeId} (dst : Option Nat) (ty : TypeId) (pos : String) (af : Array Edge) (hx : a.eval x = .int .u8 v) :
    (execOp a.eval ⟨dst, .binOp .xor tU x (.const (.int .u8 1)) tU', ty, pos, af, none⟩).run P w = .ok (.value (.int .u8 (bits .xor .u8 v 1))) w := by
  have hc : a.eval (.const (.int .u8 1)) = .int .u8 1 := rfl
  have : (binOp .xor tU (.int .u8 v) (.int .u8 1)).run P w = .ok (.int .u8 (bits .xor .u8 v 1)) w := by simp only [binOp_xor, Op.intBits, Sem.run_pure]; rfl
  have hg : (eqGuard .xor tU x (.const (.int .u8 1)) (.int .u8 v) (.int .u8 1)).run P w = .ok () w := by
    unfold eqGuard
    simp
  simp [execOp, hx, hc, this, hg]
/-- What is written ends the region: the state behind it. -/
theorem nest_rel {w0 : Base} {σ : St} {G : Gh} {nt : Nat} {a a' : Act} {w w' : World} (hR : Rel w0 σ G nt a w) {r : Nat} {o : Ob} (er : get σ.objs r = some o) (o' : Ob) (D : List Nat) (hD : ∀ k, k ∉ D → a'.tmps.getD k undef = a.tmps.getD k undef) (hsz : a'.tmps.size = a.tmps.size) (hdf : a'.defers = a.defers)
    (hM : Mem w0 (filtD safeOb [] (Vm.put σ.objs r o')) G w') (hs : ∀ av u, safeAV av = true → av.rep σ.objs G w u → av.rep (filtD safeOb [] (Vm.put σ.objs r o')) G w' u) :
    Rel w0 ⟨filtD safeAV D σ.env, filtD safeOb [] (Vm.put σ.objs r o'), σ.next⟩ G nt a' w' := by
  refine ⟨hM, fun k x hk => ?_, fun k x hk => hR.lt k x (get_filtD hk).2.1, by rw [hsz]; exact hR.size, hR.fresh, fun j q hq => ?_, by rw [hdf]; exact hR.defers⟩
  · obtain ⟨h1, h2, h3⟩ := get_filtD hk
    rw [hD k h1]
    exact hs x _ h3 (hR.env k x h2)
  · exact wf_put hR.wf (hR.wf r _ er) j q (get_filtD hq).2.1
theorem put_def (a : Act) (d : Nat) (v : Value) : (a.put (some d) v).defers = a.defers := rfl
theorem put_size (a : Act) (d : Nat) (v : Value) : (a.put (some d) v).tmps.size = a.tmps.size := by simp [Act.put]
set_option maxHeartbeats 2000000 in
theorem regAt_nest {P : Program} {E : Nat → Option TI} (hE : TOk P E) {id nt : Nat} {ops : Array Oper} {K : St → Prop} {σ : St} {b bx r t : Nat} {app : Bool} {rest ir : List (List T)} {v : Int}
    (eb : get σ.env b = some (.ptr bx 0)) (ex : get σ.objs bx = some (.box [.ref r])) (er : get σ.objs r = some (.row true app 1 ([T.lst ([T.int .u8 v] :: ir)] :: rest)))
    {tD tL tB tU : TypeId} {iD iL iB iU : TI} (hD : E tD = some iD) (hDk : ∃ l, iD.k = .st ((0, tL) :: l)) (hL : E tL = some iL) (hLk : iL.k = .sl tB) (hLa : iL.agg = false) (hB : E tB = some iB) (hBk : iB.k = .sl tU) (hBa : iB.agg = false) (hBs : iB.size = 1) (hU : E tU = some iU) (hUa : iU.agg = false) (hUs : iU.size = 1)
    (hbt : b < t) (hnt : t + 8 ≤ nt) {y0 y1 y2 y3 y4 y5 y6 y7 y8 : TypeId} {p0 p1 p2 p3 p4 p5 p6 p7 p8 : String} {f0 f1 f2 f3 f4 f5 f6 f7 f8 : Array Edge}
    (ho : ops = #[⟨some t, .fieldAddr tD (.tmp b) 0, y0, p0, f0, none⟩, ⟨some (t + 1), .load tL (.tmp t), y1, p1, f1, none⟩, ⟨some (t + 2), .indexAddr tL (.tmp (t + 1)) (.const (.int .i64 0)), y2, p2, f2, none⟩, ⟨some (t + 3), .load tB (.tmp (t + 2)), y3, p3, f3, none⟩,
      ⟨some (t + 4), .indexAddr tB (.tmp (t + 3)) (.const (.int .i64 0)), y4, p4, f4, none⟩, ⟨some (t + 5), .load tU (.tmp (t + 4)), y5, p5, f5, none⟩, ⟨some (t + 6), .binOp .xor tU (.tmp (t + 5)) (.const (.int .u8 1)) tU, y6, p6, f6, none⟩, ⟨some (t + 7), .indexAddr tB (.tmp (t + 3)) (.const (.int .i64 0)), y7, p7, f7, none⟩, ⟨none, .store tU (.tmp (t + 7)) (.tmp (t + 6)), y8, p8, f8, none⟩])
    (hK : K ⟨filtD safeAV [t, t + 1, t + 2, t + 3, t + 4, t + 5, t + 6, t + 7] σ.env, filtD safeOb [] (Vm.put σ.objs r (.row true app 1 ([T.lst ([T.int .u8 (bits .xor .u8 v 1)] :: ir)] :: rest))), σ.next⟩) :
    RegAt P nt (.region id ops false) K σ := by
  intro w0 G a w hR
  obtain ⟨vb, vr, v2, vi, v4, g, k, cur, el, hb, hN, h4, hst, hM⟩ := nest_vals hE hR eb ex er hD hDk hL hLk hLa hB hBk hBa hBs hU hUa hUs
  have hz := hR.size
  have ev : ∀ (a : Act) (k : Nat), a.eval (.tmp k) = a.tmps.getD k undef := fun _ _ => rfl
  subst ho
  refine wp_region_list ?_
  show wpList P _ _ [_, _, _, _, _, _, _, _, _] a w
  unfold wpList; rw [if_pos (by simp [Region.wanted])]
  refine .inl (wp_value (hN.fld a _ _ _ _ _ _ (by rw [ev]; exact hb)) ?_)
  generalize e1 : a.put (some t) vb = a1
  have z1 : a1.tmps.size = nt := by rw [← e1, put_size]; exact hz
  unfold wpList; rw [if_pos (by simp [Region.wanted])]
  refine .inl (wp_value (hN.ldL a1 _ _ _ _ _ _ (by rw [ev, ← e1, getD_put_same (by omega)])) ?_)
  generalize e2 : a1.put (some (t + 1)) vr = a2
  have z2 : a2.tmps.size = nt := by rw [← e2, put_size]; exact z1
  unfold wpList; rw [if_pos (by simp [Region.wanted])]
  refine .inl (wp_value (hN.ixL a2 _ _ _ _ _ _ (by rw [ev, ← e2, getD_put_same (by omega)])) ?_)
  generalize e3 : a2.put (some (t + 2)) v2 = a3
  have z3 : a3.tmps.size = nt := by rw [← e3, put_size]; exact z2
  unfold wpList; rw [if_pos (by simp [Region.wanted])]
  refine .inl (wp_value (hN.ldB a3 _ _ _ _ _ _ (by rw [ev, ← e3, getD_put_same (by omega)])) ?_)
  generalize e4 : a3.put (some (t + 3)) vi = a4
  have z4 : a4.tmps.size = nt := by rw [← e4, put_size]; exact z3
  have i4 : a4.tmps.getD (t + 3) undef = vi := by rw [← e4, getD_put_same (by omega)]
  unfold wpList; rw [if_pos (by simp [Region.wanted])]
  refine .inl (wp_value (hN.ixB a4 _ _ _ _ _ _ (by rw [ev]; exact i4)) ?_)
  generalize e5 : a4.put (some (t + 4)) v4 = a5
  have z5 : a5.tmps.size = nt := by rw [← e5, put_size]; exact z4
  have i5 : a5.tmps.getD (t + 3) undef = vi := by rw [← e5, getD_put_other (by omega)]; exact i4
  unfold wpList; rw [if_pos (by simp [Region.wanted])]
  refine .inl (wp_value (hN.ldU a5 _ _ _ _ _ _ (by rw [ev, ← e5, getD_put_same (by omega)])) ?_)
  generalize e6 : a5.put (some (t + 5)) (.int .u8 v) = a6
  have z6 : a6.tmps.size = nt := by rw [← e6, put_size]; exact z5
  have i6 : a6.tmps.getD (t + 3) undef = vi := by rw [← e6, getD_put_other (by omega)]; exact i5
  unfold wpList; rw [if_pos (by simp [Region.wanted])]
  refine .inl (wp_value (run_xorU _ _ _ _ (by rw [ev, ← e6, getD_put_same (by omega)])) ?_)
  generalize e7 : a6.put (some (t + 6)) (.int .u8 (bits .xor .u8 v 1)) = a7
  have z7 : a7.tmps.size = nt := by rw [← e7, put_size]; exact z6
  have i7 : a7.tmps.getD (t + 3) undef = vi := by rw [← e7, getD_put_other (by omega)]; exact i6
  have j7 : a7.tmps.getD (t + 6) undef = .int .u8 (bits .xor .u8 v 1) := by rw [← e7, getD_put_same (by omega)]
  unfold wpList; rw [if_pos (by simp [Region.wanted])]
  refine .inl (wp_value (hN.ixB a7 _ _ _ _ _ _ (by rw [ev]; exact i7)) ?_)
  generalize e8 : a7.put (some (t + 7)) v4 = a8
  have z8 : a8.tmps.size = nt := by rw [← e8, put_size]; exact z7
  have j8 : a8.tmps.getD (t + 6) undef = .int .u8 (bits .xor .u8 v 1) := by rw [← e8, getD_put_other (by omega)]; exact j7
  have k8 : a8.tmps.getD (t + 7) undef = v4 := by rw [← e8, getD_put_same (by omega)]
  unfold wpList; rw [if_pos (by simp [Region.wanted])]
  refine .inl (wp_skip_op (hst a8 _ _ (bits .xor .u8 v 1) _ _ _ _ (by rw [ev]; exact k8) (by rw [ev]; exact j8)) ?_)
  obtain ⟨m1, m2⟩ := hM (bits .xor .u8 v 1)
  have hall : ∀ q, q ∉ [t, t + 1, t + 2, t + 3, t + 4, t + 5, t + 6, t + 7] → a8.tmps.getD q undef = a.tmps.getD q undef := by
    intro q hq
    simp only [List.mem_cons, List.not_mem_nil, or_false, not_or] at hq
    obtain ⟨q0, q1, q2, q3, q4, q5, q6, q7⟩ := hq
    rw [← e8, getD_put_other q7, ← e7, getD_put_other q6, ← e6, getD_put_other q5, ← e5, getD_put_other q4, ← e4, getD_put_other q3, ← e3, getD_put_other q2, ← e2, getD_put_other q1, ← e1, getD_put_other q0]
  have hdef : a8.defers = a.defers := by rw [← e8, put_def, ← e7, put_def, ← e6, put_def, ← e5, put_def, ← e4, put_def, ← e3, put_def, ← e2, put_def, ← e1, put_def]
  unfold wpList
  exact ⟨rfl, _, G, hK, nest_rel (a' := a8) hR er _ _ hall (z8.trans hz.symm) hdef m1 m2⟩

/-! ### A drawn region that reads, and whose last operation waits for all -/
section
variable {P : Program} {ops : Array Oper} {Q : Exit → Act → World → Prop}
/-- Slot t + m is what operation m makes. -/
structure ReadI (ops : Array Oper) (n t : Nat) (val : Nat → Value) (a0 : Act) (listed : Array Bool) (a : Act) : Prop where
  size : listed.size = ops.size
  vals : ∀ m, m < n → inS listed m → a.tmps.getD (t + m) undef = val m
  rest : ∀ k, (k < t ∨ t + n ≤ k) → a.tmps.getD k undef = a0.tmps.getD k undef
  tsz : a.tmps.size = a0.tmps.size
  dfr : a.defers = a0.defers
  last : ¬ inS listed n
theorem reads_any {w : World} {n t : Nat} {val : Nat → Value} {a0 : Act} (hsz : ops.size = n + 1) (ht : t + n ≤ a0.tmps.size)
    (back : ∀ (m : Nat) o e, ops[m]? = some o → e ∈ o.after → Region.binds .any e = true → e.on < m)
    (step : ∀ (m : Nat) o, m < n → ops[m]? = some o → o.guard = none ∧ o.dst = some (t + m) ∧ ∀ a : Act, (∀ e ∈ o.after, Region.binds .any e = true → a.tmps.getD (t + e.on) undef = val e.on) → (∀ k, (k < t ∨ t + n ≤ k) → a.tmps.getD k undef = a0.tmps.getD k undef) → (execOp a.eval o).run P w = .ok (.value (val m)) w)
    (cover : ∀ o, ops[n]? = some o → o.guard = none ∧ ∀ m, m < n → ∃ e ∈ o.after, Region.binds .any e = true ∧ e.on = m)
    (fin : ∀ (o : Oper) (a : Act) (K : Act → World → Prop), ops[n]? = some o → (∀ m, m < n → a.tmps.getD (t + m) undef = val m) → (∀ k, (k < t ∨ t + n ≤ k) → a.tmps.getD k undef = a0.tmps.getD k undef) → a.tmps.size = a0.tmps.size → a.defers = a0.defers → (∀ w', Q .normal a w' → K a w') → o.wp P a w K Q) :
    ∀ (fuel : Nat) (listed : Array Bool) (a : Act), (List.range ops.size).countP (fun i => !listed.getD i false) ≤ fuel → ReadI ops n t val a0 listed a → wpAny P .any ops Q fuel listed a w := by
  have never : ∀ (listed : Array Bool) (a : Act), ReadI ops n t val a0 listed a → Region.ready .any ops listed = [] → False := by
    intro listed a hI hr
    have all : ∀ i, i < ops.size → inS listed i := by
      intro i
      induction i using Nat.strongRecOn with
      | ind i ih =>
        intro hi
        by_cases h : inS listed i
        · exact h
        · exfalso
          have : i ∈ Region.ready .any ops listed := mem_ready.2 ⟨by
            unfold inS at h
            rw [Array.getD_eq_getD_getElem?] at h ⊢
            rw [Array.getElem?_eq_getElem (by rw [hI.size]; exact hi)] at h ⊢
            simpa using h, ops[i], by simp, fun e he hb => by
              have hlt := back i ops[i] e (by simp) he hb
              exact ih e.on hlt (by omega)⟩
          rw [hr] at this
          cases this
    exact hI.last (all n (by omega))
  intro fuel
  induction fuel with
  | zero =>
    intro listed a hc hI
    exfalso
    refine never listed a hI (List.eq_nil_iff_forall_not_mem.2 (fun j hj => ?_))
    obtain ⟨h1, o, h2, _⟩ := mem_ready.1 hj
    have hjn : j < ops.size := (Array.getElem?_eq_some_iff.1 h2).1
    have h0 : (List.range ops.size).countP (fun i => !listed.getD i false) = 0 := by omega
    have := List.countP_eq_zero.1 h0 j (by simp [hjn])
    rw [Array.getD_eq_getD_getElem?] at h1 this
    rw [Array.getElem?_eq_getElem (by rw [hI.size]; exact hjn)] at h1 this
    simp at h1 this
    rw [h1] at this
    cases this
  | succ fuel ih =>
    intro listed a hc hI
    refine ⟨fun h0 => (never listed a hI h0).elim, fun j hj => ?_⟩
    obtain ⟨hun, o, ho, hdep⟩ := mem_ready.1 hj
    have hjn : j < ops.size := (Array.getElem?_eq_some_iff.1 ho).1
    have hjl : j < listed.size := by rw [hI.size]; exact hjn
    have hnj : ¬ inS listed j := by
      unfold inS
      rw [Array.getD_eq_getD_getElem?] at hun ⊢
      rw [Array.getElem?_eq_getElem hjl] at hun ⊢
      simp at hun ⊢
      exact hun
    have hcnt : (List.range ops.size).countP (fun i => !(listed.setIfInBounds j true).getD i false) ≤ fuel := by
      have := countP_lt (p := fun i => !listed.getD i false) (q := fun i => !(listed.setIfInBounds j true).getD i false) (l := List.range ops.size) (x := j) (fun y _ hy => by
        by_cases h : inS listed y
        · have := inS_set_mono (i := j) h
          unfold inS at this
          rw [this] at hy
          cases hy
        · unfold inS at h
          cases hb : listed.getD y false with
          | true => exact absurd hb h
          | false => rfl) (by simp [hjn]) (by unfold inS at hnj; cases hb : listed.getD j false with | true => exact absurd hb hnj | false => rfl)
          (by have := getD_set_same hjl; unfold inS at this; simp [this])
      omega
    by_cases hjl' : j < n
    · obtain ⟨hg, hd, hrun⟩ := step j o hjl' ho
      unfold wpOp
      rw [ho]
      simp only
      rw [if_pos (by unfold Region.wanted; rw [hg])]
      refine .inl (wp_value (hrun a (fun e he hb => ?_) hI.rest) ?_)
      · have hlt := back j o e ho he hb
        exact hI.vals e.on (by omega) (hdep e he hb)
      · rw [hd]
        refine ih _ _ hcnt ⟨by simpa using hI.size, fun m hm hin => ?_, fun k hk => ?_, by rw [put_size]; exact hI.tsz, hI.dfr, fun hin => ?_⟩
        · rcases inS_set hin with h | h
          · by_cases e : m = j
            · subst e; exact absurd h hnj
            · rw [getD_put_other (by omega)]; exact hI.vals m hm h
          · subst h
            exact getD_put_same (by rw [hI.tsz]; omega)
        · rw [getD_put_other (by omega)]; exact hI.rest k hk
        · rcases inS_set hin with h | h
          · exact hI.last h
          · omega
    · have hjn' : j = n := by omega
      subst hjn'
      obtain ⟨hg, hcov⟩ := cover o ho
      have hall : ∀ m, m < j → inS listed m := fun m hm => by
        obtain ⟨e, he, hb, rfl⟩ := hcov m hm
        exact hdep e he hb
      unfold wpOp
      rw [ho]
      simp only
      rw [if_pos (by unfold Region.wanted; rw [hg])]
      refine .inl (fin o a _ ho (fun m hm => hI.vals m hm (hall m hm)) hI.rest hI.tsz hI.dfr (fun w' hq => ?_))
      have hr : Region.ready .any ops (listed.setIfInBounds j true) = [] := by
        refine List.eq_nil_iff_forall_not_mem.2 (fun i hi => ?_)
        obtain ⟨h1, o', h2, _⟩ := mem_ready.1 hi
        have hil : i < ops.size := (Array.getElem?_eq_some_iff.1 h2).1
        have hin : inS (listed.setIfInBounds j true) i := by
          by_cases e : i = j
          · subst e; exact getD_set_same hjl
          · exact inS_set_mono (hall i (by omega))
        unfold inS at hin
        rw [Array.getD_eq_getD_getElem?] at h1 hin
        rw [Array.getElem?_eq_getElem (by simp; omega)] at h1 hin
        simp only [Option.getD_some] at h1 hin
        rw [h1] at hin
        cases hin
      cases fuel with
      | zero => exact ⟨hr, hq⟩
      | succ fuel => exact ⟨fun _ => hq, fun i hi => by rw [hr] at hi; cases hi⟩
end

def edgeTo (es : List Edge) (p : Nat) : Bool := es.any fun e => Region.binds .any e && Nat.beq e.on p
theorem edgeTo_iff {f : Array Edge} {p : Nat} (h : edgeTo f.toList p = true) : ∃ e ∈ f, Region.binds .any e = true ∧ e.on = p := by
  obtain ⟨e, he, h1⟩ := List.any_eq_true.1 h
  rw [Bool.and_eq_true] at h1
  exact ⟨e, by simpa using he, h1.1, Nat.eq_of_beq_eq_true h1.2⟩
def backB : Nat → List Oper → Bool
  | _, [] => true
  | m, o :: r => (o.after.toList.all fun e => !Region.binds .any e || Nat.blt e.on m) && backB (m + 1) r
theorem backB_iff : ∀ {l : List Oper} {k : Nat}, backB k l = true → ∀ (m : Nat) o e, l[m]? = some o → e ∈ o.after → Region.binds .any e = true → e.on < k + m
  | [], _, _, m, o, e, h, _, _ => by simp at h
  | x :: r, k, hb, m, o, e, h, he, hbd => by
    simp only [backB, Bool.and_eq_true] at hb
    cases m with
    | zero =>
      simp at h
      subst h
      have := List.all_eq_true.1 hb.1 e (by simpa using he)
      simp only [hbd, Bool.not_true, Bool.false_or] at this
      exact Nat.le_of_ble_eq_true this
    | succ m =>
      have := backB_iff hb.2 m o e (by simpa using h) he hbd
      omega
set_option maxHeartbeats 2000000 in
theorem regAt_nestD {P : Program} {E : Nat → Option TI} (hE : TOk P E) (hmo : P.follows .mixedOrders = true) {id nt : Nat} {ops : Array Oper} {K : St → Prop} {σ : St} {b bx r t : Nat} {app : Bool} {rest ir : List (List T)} {v : Int}
    (eb : get σ.env b = some (.ptr bx 0)) (ex : get σ.objs bx = some (.box [.ref r])) (er : get σ.objs r = some (.row true app 1 ([T.lst ([T.int .u8 v] :: ir)] :: rest)))
    {tD tL tB tU : TypeId} {iD iL iB iU : TI} (hD : E tD = some iD) (hDk : ∃ l, iD.k = .st ((0, tL) :: l)) (hL : E tL = some iL) (hLk : iL.k = .sl tB) (hLa : iL.agg = false) (hB : E tB = some iB) (hBk : iB.k = .sl tU) (hBa : iB.agg = false) (hBs : iB.size = 1) (hU : E tU = some iU) (hUa : iU.agg = false) (hUs : iU.size = 1)
    (hbt : b < t) (hnt : t + 12 ≤ nt) {y0 y1 y2 y3 y4 y5 y6 y7 y8 y9 y10 y11 y12 : TypeId} {p0 p1 p2 p3 p4 p5 p6 p7 p8 p9 p10 p11 p12 : String} {f0 f1 f2 f3 f4 f5 f6 f7 f8 f9 f10 f11 f12 : Array Edge}
    (ho : ops = #[⟨some t, .fieldAddr tD (.tmp b) 0, y0, p0, f0, none⟩, ⟨some (t + 1), .load tL (.tmp t), y1, p1, f1, none⟩, ⟨some (t + 2), .indexAddr tL (.tmp (t + 1)) (.const (.int .i64 0)), y2, p2, f2, none⟩, ⟨some (t + 3), .load tB (.tmp (t + 2)), y3, p3, f3, none⟩, ⟨some (t + 4), .fieldAddr tD (.tmp b) 0, y4, p4, f4, none⟩, ⟨some (t + 5), .load tL (.tmp (t + 4)), y5, p5, f5, none⟩, ⟨some (t + 6), .indexAddr tL (.tmp (t + 5)) (.const (.int .i64 0)), y6, p6, f6, none⟩, ⟨some (t + 7), .load tB (.tmp (t + 6)), y7, p7, f7, none⟩, ⟨some (t + 8), .indexAddr tB (.tmp (t + 7)) (.const (.int .i64 0)), y8, p8, f8, none⟩, ⟨some (t + 9), .load tU (.tmp (t + 8)), y9, p9, f9, none⟩, ⟨some (t + 10), .binOp .xor tU (.tmp (t + 9)) (.const (.int .u8 1)) tU, y10, p10, f10, none⟩, ⟨some (t + 11), .indexAddr tB (.tmp (t + 3)) (.const (.int .i64 0)), y11, p11, f11, none⟩, ⟨none, .store tU (.tmp (t + 11)) (.tmp (t + 10)), y12, p12, f12, none⟩])
    (hbk : backB 0 ops.toList = true) (g1 : edgeTo f1.toList 0 = true) (g2 : edgeTo f2.toList 1 = true) (g3 : edgeTo f3.toList 2 = true) (g5 : edgeTo f5.toList 4 = true) (g6 : edgeTo f6.toList 5 = true) (g7 : edgeTo f7.toList 6 = true) (g8 : edgeTo f8.toList 7 = true) (g9 : edgeTo f9.toList 8 = true) (g10 : edgeTo f10.toList 9 = true) (g11 : edgeTo f11.toList 3 = true) (hcv : allB 12 (fun m => edgeTo f12.toList m) = true)
    (hK : K ⟨filtD safeAV [t, t + 1, t + 2, t + 3, t + 4, t + 5, t + 6, t + 7, t + 8, t + 9, t + 10, t + 11] σ.env, filtD safeOb [] (Vm.put σ.objs r (.row true app 1 ([T.lst ([T.int .u8 (bits .xor .u8 v 1)] :: ir)] :: rest))), σ.next⟩) :
    RegAt P nt (.region id ops true) K σ := by
  intro w0 G a w hR0
  refine wp_region_any hmo ?_
  have hM0 : Mem w0 σ.objs G { w with drawn := w.drawn + 1 } ∧ Pres σ.objs G w σ.objs G { w with drawn := w.drawn + 1 } :=
    hR0.mem.step (fun id => Lv σ.objs G id) (fun _ => False) (fun id h => ⟨h, rfl⟩) ⟨rfl, rfl⟩ (fun id h => ⟨h, rfl, rfl, rfl⟩) (fun id h => .inl h) rfl rfl rfl (Nat.le_refl _) (fun b _ _ => rfl)
      (fun _ h => h.elim) (fun _ _ h => h.elim) (fun _ h => h.elim) (fun _ h => h.elim) (fun _ _ h => h.elim)
  have hR : Rel w0 σ G nt a { w with drawn := w.drawn + 1 } := ⟨hM0.1, fun k x hk => x.rep_pres hM0.2 _ (hR0.env k x hk), hR0.lt, hR0.size, hR0.fresh, hR0.wf, hR0.defers⟩
  generalize ({ w with drawn := w.drawn + 1 } : World) = w at hR
  obtain ⟨vb, vr, v2, vi, v4, g, k, cur, el, hb, hN, h4, hst, hM⟩ := nest_vals hE hR eb ex er hD hDk hL hLk hLa hB hBk hBa hBs hU hUa hUs
  have ev : ∀ (a : Act) (k : Nat), a.eval (.tmp k) = a.tmps.getD k undef := fun _ _ => rfl
  have hsz : ops.size = 12 + 1 := by rw [ho]; rfl
  let val : Nat → Value := fun m => ([vb, vr, v2, vi, vb, vr, v2, vi, v4, .int .u8 v, .int .u8 (bits .xor .u8 v 1), v4] : List Value).getD m undef
  have dep : ∀ {f : Array Edge} {p : Nat} {a : Act}, edgeTo f.toList p = true → (∀ e ∈ f, Region.binds .any e = true → a.tmps.getD (t + e.on) undef = val e.on) → a.tmps.getD (t + p) undef = val p := fun {f p a} h1 h2 => by
    obtain ⟨e, he, hbd, rfl⟩ := edgeTo_iff h1
    exact h2 e he hbd
  refine reads_any (n := 12) (t := t) (val := val) (a0 := a) hsz (by rw [hR.size]; exact hnt) (fun m o e h1 h2 h3 => by have := backB_iff hbk m o e (by simpa using h1) h2 h3; omega) ?_ ?_ ?_ ops.size _ a (Nat.le_trans List.countP_le_length (by simp)) ⟨by simp, fun m _ hin => ?_, fun _ _ => rfl, rfl, rfl, fun hin => ?_⟩
  · intro m o hm ho'
    subst ho
    have hcase : m = 0 ∨ m = 1 ∨ m = 2 ∨ m = 3 ∨ m = 4 ∨ m = 5 ∨ m = 6 ∨ m = 7 ∨ m = 8 ∨ m = 9 ∨ m = 10 ∨ m = 11 := by omega
    have ho := ho'
    rcases hcase with rfl | rfl | rfl | rfl | rfl | rfl | rfl | rfl | rfl | rfl | rfl | rfl
    · obtain rfl : o = ⟨some t, .fieldAddr tD (.tmp b) 0, y0, p0, f0, none⟩ := by simpa using ho.symm
      exact ⟨rfl, rfl, fun a hd hr => hN.fld a _ _ _ _ _ _ (by rw [ev, hr b (.inl hbt)]; exact hb)⟩
    · obtain rfl : o = ⟨some (t + 1), .load tL (.tmp t), y1, p1, f1, none⟩ := by simpa using ho.symm
      exact ⟨rfl, rfl, fun a hd hr => hN.ldL a _ _ _ _ _ _ (by rw [ev]; exact dep g1 hd)⟩
    · obtain rfl : o = ⟨some (t + 2), .indexAddr tL (.tmp (t + 1)) (.const (.int .i64 0)), y2, p2, f2, none⟩ := by simpa using ho.symm
      exact ⟨rfl, rfl, fun a hd hr => hN.ixL a _ _ _ _ _ _ (by rw [ev]; exact dep g2 hd)⟩
    · obtain rfl : o = ⟨some (t + 3), .load tB (.tmp (t + 2)), y3, p3, f3, none⟩ := by simpa using ho.symm
      exact ⟨rfl, rfl, fun a hd hr => hN.ldB a _ _ _ _ _ _ (by rw [ev]; exact dep g3 hd)⟩
    · obtain rfl : o = ⟨some (t + 4), .fieldAddr tD (.tmp b) 0, y4, p4, f4, none⟩ := by simpa using ho.symm
      exact ⟨rfl, rfl, fun a hd hr => hN.fld a _ _ _ _ _ _ (by rw [ev, hr b (.inl hbt)]; exact hb)⟩
    · obtain rfl : o = ⟨some (t + 5), .load tL (.tmp (t + 4)), y5, p5, f5, none⟩ := by simpa using ho.symm
      exact ⟨rfl, rfl, fun a hd hr => hN.ldL a _ _ _ _ _ _ (by rw [ev]; exact dep g5 hd)⟩
    · obtain rfl : o = ⟨some (t + 6), .indexAddr tL (.tmp (t + 5)) (.const (.int .i64 0)), y6, p6, f6, none⟩ := by simpa using ho.symm
      exact ⟨rfl, rfl, fun a hd hr => hN.ixL a _ _ _ _ _ _ (by rw [ev]; exact dep g6 hd)⟩
    · obtain rfl : o = ⟨some (t + 7), .load tB (.tmp (t + 6)), y7, p7, f7, none⟩ := by simpa using ho.symm
      exact ⟨rfl, rfl, fun a hd hr => hN.ldB a _ _ _ _ _ _ (by rw [ev]; exact dep g7 hd)⟩
    · obtain rfl : o = ⟨some (t + 8), .indexAddr tB (.tmp (t + 7)) (.const (.int .i64 0)), y8, p8, f8, none⟩ := by simpa using ho.symm
      exact ⟨rfl, rfl, fun a hd hr => hN.ixB a _ _ _ _ _ _ (by rw [ev]; exact dep g8 hd)⟩
    · obtain rfl : o = ⟨some (t + 9), .load tU (.tmp (t + 8)), y9, p9, f9, none⟩ := by simpa using ho.symm
      exact ⟨rfl, rfl, fun a hd hr => hN.ldU a _ _ _ _ _ _ (by rw [ev]; exact dep g9 hd)⟩
    · obtain rfl : o = ⟨some (t + 10), .binOp .xor tU (.tmp (t + 9)) (.const (.int .u8 1)) tU, y10, p10, f10, none⟩ := by simpa using ho.symm
      exact ⟨rfl, rfl, fun a hd hr => run_xorU _ _ _ _ (by rw [ev]; exact dep g10 hd)⟩
    · obtain rfl : o = ⟨some (t + 11), .indexAddr tB (.tmp (t + 3)) (.const (.int .i64 0)), y11, p11, f11, none⟩ := by simpa using ho.symm
      exact ⟨rfl, rfl, fun a hd hr => hN.ixB a _ _ _ _ _ _ (by rw [ev]; exact dep g11 hd)⟩
  · intro o ho'
    subst ho
    obtain rfl : o = ⟨none, .store tU (.tmp (t + 11)) (.tmp (t + 10)), y12, p12, f12, none⟩ := by simpa using ho'.symm
    exact ⟨rfl, fun m hm => edgeTo_iff (allB_iff hcv m hm)⟩
  · intro o a' K' ho' hv hr hz hdf hk
    subst ho
    obtain rfl : o = ⟨none, .store tU (.tmp (t + 11)) (.tmp (t + 10)), y12, p12, f12, none⟩ := by simpa using ho'.symm
    refine wp_skip_op (hst a' _ _ (bits .xor .u8 v 1) _ _ _ _ (by rw [ev]; exact hv 11 (by omega)) (by rw [ev]; exact hv 10 (by omega))) ?_
    obtain ⟨m1, m2⟩ := hM (bits .xor .u8 v 1)
    refine hk _ ⟨rfl, _, G, hK, nest_rel (a' := a') hR er _ _ (fun q hq => hr q ?_) hz hdf m1 m2⟩
    simp only [List.mem_cons, List.not_mem_nil, or_false, not_or] at hq
    omega
  · unfold inS at hin
    rw [Array.getD_eq_getD_getElem?, Array.getElem?_replicate] at hin
    split at hin <;> simp at hin
  · unfold inS at hin
    rw [Array.getD_eq_getD_getElem?, Array.getElem?_replicate] at hin
    split at hin <;> simp at hin
end Go.Vm
