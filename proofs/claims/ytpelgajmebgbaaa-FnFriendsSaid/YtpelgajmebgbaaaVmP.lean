/-
  How a table of types is held against a program; small rules for the use of the evaluator.
  Conditions: none.
-/
import Derived.Test.YtpelgajmebgbaaaVmO
namespace Go.Vm
open Go.RowKit

theorem fieldsOk_of {P : Program} {fs : Array Field} (h : (fs.toList.all fun f => match P.info? f.type with | some i => i.size != 0 | none => false) = true) : ∀ f ∈ fs.toList, ∃ i, P.info? f.type = some i ∧ i.size ≠ 0 := by
  intro f hf
  have := List.all_eq_true.1 h f hf
  split at this
  · rename_i i hi
    exact ⟨i, hi, by simpa using this⟩
  · cases this

def aggD : TypeDesc → Bool
  | .struct _ => true
  | .array _ _ => true
  | _ => false

theorem TIok.mk_ {P : Program} {t : Nat} {ti : TI} {z : Value} {d : TypeDesc} (h1 : (P.info? t).map (fun i => (i.size, i.bytes, i.zero)) = some (ti.size, ti.bytes, some z)) (hz : z.cells = (ti.zero.map C.plain).toArray) (hz2 : z.cells.size = ti.size)
    (hd : P.underlying t = some d) (ha : aggD d = ti.agg) (hk : TKok P d ti.k) (hp : ti.zero.all C.isPlain = true)
    (he : ti.cmp = true → P.eqGuardType P.depth t = false ∧ ∀ (xs ys : List Int) (w : World), xs.length = ti.size → ys.length = ti.size →
      (Op.equal t (.agg (xs.map (Value.int .i64)).toArray) (.agg (ys.map (Value.int .i64)).toArray)).run P w = .ok (xs == ys) w) : TIok P t ti := by
  refine ⟨?_, ⟨d, hd, by rw [← ha]; cases d <;> rfl, hk⟩, hp, he⟩
  cases hi : P.info? t with
  | none => rw [hi] at h1; cases h1
  | some i =>
    rw [hi] at h1
    simp only [Option.map_some, Option.some.injEq, Prod.mk.injEq] at h1
    exact ⟨i, z, rfl, h1.1, h1.2.1, h1.2.2, hz, hz2⟩

theorem tok_of {P : Program} {l : List (Nat × TI)} (h : ∀ p ∈ l, TIok P p.1 p.2) : TOk P (get l) := by
  intro t ti hg
  induction l with
  | nil => cases hg
  | cons p r ih =>
    obtain ⟨k, v⟩ := p
    cases hb : Nat.beq k t with
    | true =>
      have := Nat.eq_of_beq_eq_true hb
      subst this
      simp only [get, hb, cond_true, Option.some.injEq] at hg
      subst hg
      exact h (k, v) (by simp)
    | false => simp only [get, hb, cond_false] at hg; exact ih (fun q hq => h q (by simp [hq])) hg

/-- A struct whose cells are all ints, compared cell by cell. -/
theorem eqFields_ints {P : Program} {xs ys : List Int} {w : World} : ∀ (fs : List Field) (k : Nat), (∀ f ∈ fs, f.name ≠ "_" ∧ P.underlying f.type = some (.int .i64)) → (fs.map (·.offset)) = List.range' k fs.length → k + fs.length = xs.length → ys.length = xs.length → ∀ d,
    (Op.eqFields (d + 1) (xs.map (Value.int .i64)).toArray (ys.map (Value.int .i64)).toArray fs).run P w = .ok (xs.drop k == ys.drop k) w
  | [], k, _, _, h3, h4, d => by
    simp only [List.length_nil, Nat.add_zero] at h3
    rw [List.drop_of_length_le (by omega), List.drop_of_length_le (by omega)]
    simp [Op.eqFields]
  | f :: fs, k, h1, h2, h3, h4, d => by
    simp only [List.map_cons, List.length_cons, List.range'_succ, List.cons.injEq] at h2
    simp only [List.length_cons] at h3
    obtain ⟨hn, hu⟩ := h1 f (by simp)
    have ih := eqFields_ints (xs := xs) (ys := ys) (w := w) fs (k + 1) (fun g hg => h1 g (by simp [hg])) h2.2 (by omega) h4 d
    have hx : k < xs.length := by omega
    have hy : k < ys.length := by omega
    have hpart : ∀ (zs : List Int) (hz : k < zs.length) (w : World), (part f.type (zs.map (Value.int .i64)).toArray f.offset).run P w = .ok (.int .i64 zs[k]) w := fun zs hz w => by
      simp [part, isAgg, run_underlying hu, h2.1, hz]
    have hag : ∀ (w : World) (a b : Int), (Op.equalIn (d + 1) f.type (.int .i64 a) (.int .i64 b)).run P w = .ok (a == b) w := fun w a b => by
      simp [Op.equalIn, run_underlying hu]
    simp only [Op.eqFields, if_pos hn, Sem.run_bind, hpart xs hx, hpart ys hy, Result.andThen_ok, hag]
    rw [List.drop_eq_getElem_cons hx, List.drop_eq_getElem_cons hy]
    cases hb : (xs[k] == ys[k]) with
    | false => simp only [Bool.not_false, if_true, Sem.run_pure, List.cons_beq_cons, hb, Bool.false_and]
    | true => simp only [Bool.not_true, Bool.false_eq_true, if_false, ih, List.cons_beq_cons, hb, Bool.true_and]

theorem tiEq_of (P : Program) (t : Nat) (ti : TI) {fs : Array Field} (h1 : P.eqGuardType P.depth t = false) (h2 : P.stoodInHeld t = false) (hd : P.underlying t = some (.struct fs)) (hsz : fs.size = ti.size)
    (hf : ((fs.toList.all fun f => f.name != "_" && (match P.underlying f.type with | some (.int .i64) => true | _ => false)) && (fs.toList.map (·.offset) == List.range' 0 fs.toList.length)) = true) :
    ti.cmp = true → P.eqGuardType P.depth t = false ∧ ∀ (xs ys : List Int) (w : World), xs.length = ti.size → ys.length = ti.size →
      (Op.equal t (.agg (xs.map (Value.int .i64)).toArray) (.agg (ys.map (Value.int .i64)).toArray)).run P w = .ok (xs == ys) w := by
  intro _
  refine ⟨h1, fun xs ys w hx hy => ?_⟩
  simp only [Bool.and_eq_true] at hf
  have hfo : P.fieldsOf t = fs := by simp [Program.fieldsOf, hd]
  have hr := run_equalIn_struct (P := P) w 9999 t (xs.map (Value.int .i64)).toArray (ys.map (Value.int .i64)).toArray (by rw [hfo]; exact hd) h2
  rw [hfo] at hr
  have h9 := eqFields_ints (P := P) (xs := xs) (ys := ys) (w := w) fs.toList 0 (fun f hff => by
    have := List.all_eq_true.1 hf.1 f hff
    simp only [Bool.and_eq_true] at this
    refine ⟨by simpa using this.1, ?_⟩
    have h3 := this.2
    split at h3
    · assumption
    · cases h3) (by simpa using hf.2) (by simp; omega) (by omega) 9998
  show (Op.equalIn 10000 t _ _).run P w = _
  rw [hr, h9]
  simp
end Go.Vm
