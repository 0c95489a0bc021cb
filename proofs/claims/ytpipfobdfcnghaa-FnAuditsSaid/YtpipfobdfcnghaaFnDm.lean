/-
  Contracts: draws known by their size: the cursor's calls.
  Conditions: none.
-/
import Derived.Test.YtpipfobdfcnghaaFnDrd
namespace Go.Proofs.Ytpipfobdfcnghaa
set_option maxHeartbeats 4000000
set_option maxRecDepth 20000
open Go.Vm Go.RowKit
attribute [local irreducible] FnAt MutAt InAt JAt CurAt FnE CurE RegAt
attribute [local irreducible] beN cuI cuN beV byV
theorem c_l1BytesG (c : Cu) (r : Int) (h : c.ok) (hr : 0 ≤ r ∧ r ≤ 1048576) : CurAt Try.prog 41 (Cu.e c) (Cu.e (cuI c r.toNat)) [.one (I r)] [.one (.l 1 ((byV c r.toNat).map eU))] :=
  c_l1BytesI c r r.toNat h (by omega) (by omega)
theorem inAt_curK {P : Program} {f : FuncId} {cs : List T} {xs : List V} {X : Type} {cs' : X → List T} {rs : X → List RV} {Q : X → Prop} {avs : List AV} {σ : St} {K : AV → St → Prop} {id : Nat} {ds : List C}
    (hk : ∀ x, Q x → K (impR ⟨σ.env, Vm.put σ.objs id (.box ((cs' x).map ancC)), σ.next⟩ (rs x)).1 ⟨σ.env, (impR ⟨σ.env, Vm.put σ.objs id (.box ((cs' x).map ancC)), σ.next⟩ (rs x)).2.objs, (impR ⟨σ.env, Vm.put σ.objs id (.box ((cs' x).map ancC)), σ.next⟩ (rs x)).2.next⟩)
    (hc : CurE P f cs xs X cs' rs Q) (hg : Vm.get σ.objs id = some (.box ds)) (hds : cellsT ds = some cs) (has : mapO (argW σ.objs) avs = some xs) : InAt P f (.ptr id 0 :: avs) σ K := inAt_curE hc hg hds has hk
theorem inAt_fnK {P : Program} {f : FuncId} {xs : List V} {X : Type} {rs : X → List RV} {Q : X → Prop} {avs : List AV} {σ : St} {K : AV → St → Prop}
    (hk : ∀ x, Q x → K (impR σ (rs x)).1 ⟨σ.env, (impR σ (rs x)).2.objs, (impR σ (rs x)).2.next⟩) (hc : FnE P f xs X rs Q) (has : mapO (argV σ.objs) avs = some xs) : InAt P f avs σ K := inAt_fnE hc has hk
theorem cur_ex {f : FuncId} {cs cs0 cs1 : List T} {xs as0 : List V} {rs0 : List RV} {K : List T → List RV → Prop} (hc : CurAt Try.prog f cs0 cs1 as0 rs0) (h1 : cs = cs0) (h2 : xs = as0) (hk : K cs1 rs0) : ∃ cs' rs, CurAt Try.prog f cs cs' xs rs ∧ K cs' rs := by
  subst h1 h2; exact ⟨_, _, hc, hk⟩
theorem be_small {c : Cu} {n : Int} (h : 0 < n) (h2 : n ≤ 1048576) : 0 ≤ beV c n ∧ beV c n ≤ 1048576 := by
  have := beV_lt (c := c) h
  omega
theorem get_mem {xs : List Int} {c : Cu} (h : 0 < xs.length) : xs[(beV c xs.length).toNat]?.getD 0 ∈ xs := by
  have hb := beV_lt (c := c) (n := (xs.length : Int)) (by omega)
  have hk : (beV c xs.length).toNat < xs.length := by omega
  rw [List.getElem?_eq_getElem hk]
  exact List.getElem_mem hk
end Go.Proofs.Ytpipfobdfcnghaa
