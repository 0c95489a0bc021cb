/-
  Contracts: clients that crash, servers that are corrupted, messages that are submitted, in worlds.
  Conditions: none.
-/
import Derived.Test.YteecgbgdmfjogaaGreatFnGw
import Derived.Test.YteecgbgdmfjogaaGreatFnF
namespace Go.Proofs.YteecgbgdmfjogaaGreat
set_option maxHeartbeats 4000000
set_option maxRecDepth 20000
open Go.Vm Go.RowKit
attribute [local irreducible] FnAt MutAt InAt JAt CurAt FnE CurE RegAt

attribute [local irreducible] worldOk crashD submitD submitOk
def hasCl (w : DWorld) (c : Int) : Bool := inR c 0 ((w.Devices.length : Int) - 1)
def setDev (w : DWorld) (c : Int) (f : DDevice → DDevice) : DWorld := { w with Devices := match w.Devices[c.toNat]? with
  | some d => w.Devices.set c.toNat (f d)
  | none => w.Devices }
def crashOk (w : DWorld) (c : Int) : Bool := worldOk w && hasCl w c
def crashW (w : DWorld) (c : Int) : DWorld := if crashOk w c then setDev w c crashD else w
def corrOk (w : DWorld) (s b : Int) : Bool := worldOk w && inR s 0 ((w.Servers.length : Int) - 1) && inR b 0 3
def corruptW (w : DWorld) (s b : Int) : DWorld := if corrOk w s b then { w with Servers := match w.Servers[s.toNat]? with
  | some v => w.Servers.set s.toNat { v with Behavior := b }
  | none => w.Servers } else w
def subOk (w : DWorld) (c : Int) (m : List UInt8) : Bool := crashOk w c && (match w.Devices[c.toNat]? with
  | some d => submitOk d m
  | none => false)
def submitW (w : DWorld) (c : Int) (m : List UInt8) : DWorld := if subOk w c m then setDev w c (submitD · m) else w
theorem setDev_in {w : DWorld} {c : Int} (h : c.toNat < w.Devices.length) (f : DDevice → DDevice) : setDev w c f = { w with Devices := w.Devices.set c.toNat (f w.Devices[c.toNat]) } := by
  simp only [setDev, List.getElem?_eq_getElem h]
theorem set_map {α β : Type} (f : α → β) (l : List α) (i : Nat) (x : α) : (l.map f).set i (f x) = (l.set i x).map f := by rw [List.map_set]
theorem wlen {n : Nat} (h : n ≤ 1099511627776) : IntKind.i64.wrap ((n : Int) - 1) = (n : Int) - 1 := w64_ok (by omega) (by omega)
theorem c_hasClient (w : DWorld) (c : Int) (h : w.Devices.length ≤ 1099511627776) : FnAt Tryz.prog 52 [.agg (DWorld.e w), .one (I c)] [.one (.s (.bool (hasCl w c)))] := by
  have hm := lenm DDevice.e w.Devices
  have hw := wlen h
  refine fn_of Tryz.func52 rfl (by kernel_rfl) rfl ?_
  all_goals repeat' (first | (with_reducible rfl) | ((conv => whnf); first | exact trivial | (with_reducible rfl) | exact (rfl : (0 : Int) = ((0 : Nat) : Int)) | exact w64_nat arith | refine bcase_T (by first | with_reducible rfl | decide) ?_ | refine bcase_F (by first | with_reducible rfl | decide) ?_ | refine bcase_dec (fun _ => ?_) (fun _ => ?_) | refine bcase_not ?_ | refine bcase_intro (fun _ => ?_) (fun _ => ?_) | refine ⟨(by with_reducible rfl), ?_⟩ | refine ⟨congrArg vi ?_, ?_⟩ | refine ⟨congrArg vb ?_, ?_⟩ | refine ⟨rfl, ?_⟩ | refine ⟨(by kernel_rfl : drawOK _ = true), ?_⟩ | refine Or.inl ?_ | refine ⟨⟨congrArg (T.int _) ?_, rfl⟩, ?_⟩ | refine ⟨⟨congrArg T.bool ?_, rfl⟩, ?_⟩ | refine ⟨⟨rfl, Nat.le_of_ble_eq_true rfl⟩, ?_⟩ | refine ⟨⟨rfl, rfl⟩, ?_⟩ | refine ⟨⟨rfl, (by decide)⟩, ?_⟩ | refine ⟨⟨rfl, ?_⟩, ?_⟩ | refine ⟨Or.inr rfl, ?_⟩ | refine ⟨Or.inl rfl, ?_⟩ | refine ⟨⟨⟨rfl, rfl, rfl⟩, ?_⟩, ?_⟩ | refine ⟨_, _, rfl, row_get _ _ arith, rfl, ?_⟩ | refine ⟨Or.inr (by repeat (first | exact trivial | refine ⟨rfl, ?_⟩)), ?_⟩ | refine ⟨(?_ : _ = ([] : List (List T))), ?_⟩ | refine ⟨_, fn_args (c_InRange c 0 ((w.Devices.length : Int) - 1)) (by rw [hm, hw]; rfl), ?_⟩ | fail))
  all_goals rfl
theorem c_CrashClient (w : DWorld) (c : Int) (h : bigW w) (h8 : w.Devices.length ≤ 1048576) : FnAt Tryz.prog 14 [.agg (DWorld.e w), .one (I c)] [.agg (DWorld.r (crashW w c)), .one (.s (.bool (crashOk w c)))] := by
  have hm := lenm DDevice.e w.Devices
  cases h1 : worldOk w with
  | false =>
    have e : crashOk w c = false := by unfold crashOk; rw [h1]; rfl
    have e2 : crashW w c = w := by unfold crashW; rw [e]; rfl
    rw [e, e2]
    refine fn_of Tryz.func14 rfl (by kernel_rfl) rfl ?_
    all_goals repeat' (first | (with_reducible rfl) | ((conv => whnf); first | refine ⟨_, c_copyWorld w h h8, ?_⟩ | refine ⟨_, c_IsValidWorld w h, ?_⟩ | refine bcase_T (by rw [h1]; rfl) ?_ | exact trivial | (with_reducible rfl) | exact (rfl : (0 : Int) = ((0 : Nat) : Int)) | exact w64_nat arith | refine bcase_T (by first | with_reducible rfl | decide) ?_ | refine bcase_F (by first | with_reducible rfl | decide) ?_ | refine bcase_dec (fun _ => ?_) (fun _ => ?_) | refine bcase_not ?_ | refine bcase_intro (fun _ => ?_) (fun _ => ?_) | refine ⟨(by with_reducible rfl), ?_⟩ | refine ⟨congrArg vi ?_, ?_⟩ | refine ⟨congrArg vb ?_, ?_⟩ | refine ⟨rfl, ?_⟩ | refine ⟨(by kernel_rfl : drawOK _ = true), ?_⟩ | refine Or.inl ?_ | refine ⟨⟨congrArg (T.int _) ?_, rfl⟩, ?_⟩ | refine ⟨⟨congrArg T.bool ?_, rfl⟩, ?_⟩ | refine ⟨⟨rfl, Nat.le_of_ble_eq_true rfl⟩, ?_⟩ | refine ⟨⟨rfl, rfl⟩, ?_⟩ | refine ⟨⟨rfl, (by decide)⟩, ?_⟩ | refine ⟨⟨rfl, ?_⟩, ?_⟩ | refine ⟨Or.inr rfl, ?_⟩ | refine ⟨Or.inl rfl, ?_⟩ | refine ⟨⟨⟨rfl, rfl, rfl⟩, ?_⟩, ?_⟩ | refine ⟨_, _, rfl, row_get _ _ arith, rfl, ?_⟩ | refine ⟨Or.inr (by repeat (first | exact trivial | refine ⟨rfl, ?_⟩)), ?_⟩ | refine ⟨(?_ : _ = ([] : List (List T))), ?_⟩ | fail))
    all_goals rfl
  | true =>
  cases h2 : hasCl w c with
  | false =>
    have e : crashOk w c = false := by unfold crashOk; rw [h2, Bool.and_false]
    have e2 : crashW w c = w := by unfold crashW; rw [e]; rfl
    rw [e, e2]
    refine fn_of Tryz.func14 rfl (by kernel_rfl) rfl ?_
    all_goals repeat' (first | (with_reducible rfl) | ((conv => whnf); first | refine ⟨_, c_copyWorld w h h8, ?_⟩ | refine ⟨_, c_IsValidWorld w h, ?_⟩ | refine ⟨_, c_hasClient w c h.2.1.1, ?_⟩ | refine bcase_F (by rw [h1]; rfl) ?_ | refine bcase_T (by rw [h2]; rfl) ?_ | exact trivial | (with_reducible rfl) | exact (rfl : (0 : Int) = ((0 : Nat) : Int)) | exact w64_nat arith | refine bcase_T (by first | with_reducible rfl | decide) ?_ | refine bcase_F (by first | with_reducible rfl | decide) ?_ | refine bcase_dec (fun _ => ?_) (fun _ => ?_) | refine bcase_not ?_ | refine bcase_intro (fun _ => ?_) (fun _ => ?_) | refine ⟨(by with_reducible rfl), ?_⟩ | refine ⟨congrArg vi ?_, ?_⟩ | refine ⟨congrArg vb ?_, ?_⟩ | refine ⟨rfl, ?_⟩ | refine ⟨(by kernel_rfl : drawOK _ = true), ?_⟩ | refine Or.inl ?_ | refine ⟨⟨congrArg (T.int _) ?_, rfl⟩, ?_⟩ | refine ⟨⟨congrArg T.bool ?_, rfl⟩, ?_⟩ | refine ⟨⟨rfl, Nat.le_of_ble_eq_true rfl⟩, ?_⟩ | refine ⟨⟨rfl, rfl⟩, ?_⟩ | refine ⟨⟨rfl, (by decide)⟩, ?_⟩ | refine ⟨⟨rfl, ?_⟩, ?_⟩ | refine ⟨Or.inr rfl, ?_⟩ | refine ⟨Or.inl rfl, ?_⟩ | refine ⟨⟨⟨rfl, rfl, rfl⟩, ?_⟩, ?_⟩ | refine ⟨_, _, rfl, row_get _ _ arith, rfl, ?_⟩ | refine ⟨Or.inr (by repeat (first | exact trivial | refine ⟨rfl, ?_⟩)), ?_⟩ | refine ⟨(?_ : _ = ([] : List (List T))), ?_⟩ | fail))
    all_goals rfl
  | true =>
  have e : crashOk w c = true := by unfold crashOk; rw [h1, h2]; rfl
  have h3 := inR_iff.1 h2
  obtain ⟨c, rfl⟩ := Int.eq_ofNat_of_zero_le h3.1
  have hc : c < w.Devices.length := by omega
  have e2 : crashW w c = { w with Devices := w.Devices.set c (crashD w.Devices[c]) } := by unfold crashW; rw [e, if_pos rfl, setDev_in (by simpa using hc)]; rfl
  rw [e, e2]
  refine fn_of Tryz.func14 rfl (by kernel_rfl) rfl ?_
  all_goals repeat' (first | (with_reducible rfl) | ((conv => whnf); first | refine ⟨_, c_copyWorld w h h8, ?_⟩ | refine ⟨_, c_IsValidWorld w h, ?_⟩ | refine ⟨_, c_hasClient w c h.2.1.1, ?_⟩ | refine bcase_F (by rw [h1]; rfl) ?_ | refine bcase_F (by rw [h2]; rfl) ?_ | refine ⟨c, _, rfl, row_get _ _ hc, rfl, ?_⟩ | refine ⟨_, c_CrashDevice w.Devices[c] (h.2.1.2 _ (List.getElem_mem _)), ?_⟩ | refine ⟨c, rfl, (by omega), ?_⟩ | refine ⟨_, row_get _ _ hc, ⟨rfl, Nat.le_of_ble_eq_true rfl⟩, ?_⟩ | exact trivial | (with_reducible rfl) | exact (rfl : (0 : Int) = ((0 : Nat) : Int)) | exact w64_nat arith | refine bcase_T (by first | with_reducible rfl | decide) ?_ | refine bcase_F (by first | with_reducible rfl | decide) ?_ | refine bcase_dec (fun _ => ?_) (fun _ => ?_) | refine bcase_not ?_ | refine bcase_intro (fun _ => ?_) (fun _ => ?_) | refine ⟨(by with_reducible rfl), ?_⟩ | refine ⟨congrArg vi ?_, ?_⟩ | refine ⟨congrArg vb ?_, ?_⟩ | refine ⟨rfl, ?_⟩ | refine ⟨(by kernel_rfl : drawOK _ = true), ?_⟩ | refine Or.inl ?_ | refine ⟨⟨congrArg (T.int _) ?_, rfl⟩, ?_⟩ | refine ⟨⟨congrArg T.bool ?_, rfl⟩, ?_⟩ | refine ⟨⟨rfl, Nat.le_of_ble_eq_true rfl⟩, ?_⟩ | refine ⟨⟨rfl, rfl⟩, ?_⟩ | refine ⟨⟨rfl, (by decide)⟩, ?_⟩ | refine ⟨⟨rfl, ?_⟩, ?_⟩ | refine ⟨Or.inr rfl, ?_⟩ | refine ⟨Or.inl rfl, ?_⟩ | refine ⟨⟨⟨rfl, rfl, rfl⟩, ?_⟩, ?_⟩ | refine ⟨_, _, rfl, row_get _ _ arith, rfl, ?_⟩ | refine ⟨Or.inr (by repeat (first | exact trivial | refine ⟨rfl, ?_⟩)), ?_⟩ | refine ⟨(?_ : _ = ([] : List (List T))), ?_⟩ | fail))
  all_goals first
    | rfl
    | exact set_map DDevice.e w.Devices c (crashD w.Devices[c])
    | skip
theorem c_CorruptServer (w : DWorld) (s b : Int) (h : bigW w) (h8 : w.Devices.length ≤ 1048576) : FnAt Tryz.prog 13 [.agg (DWorld.e w), .one (I s), .one (I b)] [.agg (DWorld.r (corruptW w s b)), .one (.s (.bool (corrOk w s b)))] := by
  have hm := lenm DServer.e w.Servers
  have hw := wlen h.1.1
  by_cases hk : corrOk w s b = true
  case neg =>
    have e := eq_false_of_ne_true hk
    have e2 : corruptW w s b = w := by unfold corruptW; rw [e]; rfl
    rw [e, e2]
    refine fn_of Tryz.func13 rfl (by kernel_rfl) rfl ?_
    all_goals repeat' (first | (with_reducible rfl) | ((conv => whnf); first | exact trivial | (with_reducible rfl) | exact (rfl : (0 : Int) = ((0 : Nat) : Int)) | exact w64_nat arith | refine bcase_T (by first | with_reducible rfl | decide) ?_ | refine bcase_F (by first | with_reducible rfl | decide) ?_ | refine bcase_dec (fun _ => ?_) (fun _ => ?_) | refine bcase_not ?_ | refine bcase_intro (fun _ => ?_) (fun _ => ?_) | refine ⟨(by with_reducible rfl), ?_⟩ | refine ⟨congrArg vi ?_, ?_⟩ | refine ⟨congrArg vb ?_, ?_⟩ | refine ⟨rfl, ?_⟩ | refine ⟨(by kernel_rfl : drawOK _ = true), ?_⟩ | refine Or.inl ?_ | refine ⟨⟨congrArg (T.int _) ?_, rfl⟩, ?_⟩ | refine ⟨⟨congrArg T.bool ?_, rfl⟩, ?_⟩ | refine ⟨⟨rfl, Nat.le_of_ble_eq_true rfl⟩, ?_⟩ | refine ⟨⟨rfl, rfl⟩, ?_⟩ | refine ⟨⟨rfl, (by decide)⟩, ?_⟩ | refine ⟨⟨rfl, ?_⟩, ?_⟩ | refine ⟨Or.inr rfl, ?_⟩ | refine ⟨Or.inl rfl, ?_⟩ | refine ⟨⟨⟨rfl, rfl, rfl⟩, ?_⟩, ?_⟩ | refine ⟨_, _, rfl, row_get _ _ arith, rfl, ?_⟩ | refine ⟨Or.inr (by repeat (first | exact trivial | refine ⟨rfl, ?_⟩)), ?_⟩ | refine ⟨(?_ : _ = ([] : List (List T))), ?_⟩ | refine ⟨_, c_copyWorld w h h8, ?_⟩ | refine ⟨_, c_IsValidWorld w h, ?_⟩ | refine ⟨_, fn_args (c_InRange s 0 ((w.Servers.length : Int) - 1)) (by rw [hm, hw]; rfl), ?_⟩ | refine ⟨_, c_InRange _ _ _, ?_⟩ | fail))
    all_goals first
      | rfl
      | (exfalso; exact hk (by unfold corrOk; simp_all))
      | skip
  have hk' := hk
  simp only [corrOk, Bool.and_eq_true] at hk'
  obtain ⟨⟨h1, h2⟩, h5⟩ := hk'
  have h3 := inR_iff.1 h2
  obtain ⟨s, rfl⟩ := Int.eq_ofNat_of_zero_le h3.1
  have hc : s < w.Servers.length := by omega
  have e2 : corruptW w s b = { w with Servers := w.Servers.set s { w.Servers[s] with Behavior := b } } := by
    unfold corruptW; rw [hk, if_pos rfl]; simp only [Int.toNat_natCast, List.getElem?_eq_getElem hc]
  rw [hk, e2]
  refine fn_of Tryz.func13 rfl (by kernel_rfl) rfl ?_
  all_goals repeat' (first | (with_reducible rfl) | ((conv => whnf); first | refine ⟨_, c_copyWorld w h h8, ?_⟩ | refine ⟨_, c_IsValidWorld w h, ?_⟩ | refine ⟨_, fn_args (c_InRange s 0 ((w.Servers.length : Int) - 1)) (by rw [hm, hw]; rfl), ?_⟩ | refine ⟨_, c_InRange _ _ _, ?_⟩ | refine bcase_F (by rw [h1]; rfl) ?_ | refine bcase_F (by rw [h2]; rfl) ?_ | refine bcase_F (by rw [h5]; rfl) ?_ | refine ⟨s, rfl, (by omega), ?_⟩ | refine ⟨_, row_get _ _ hc, ⟨rfl, Nat.le_of_ble_eq_true rfl⟩, ?_⟩ | exact trivial | (with_reducible rfl) | exact (rfl : (0 : Int) = ((0 : Nat) : Int)) | exact w64_nat arith | refine bcase_T (by first | with_reducible rfl | decide) ?_ | refine bcase_F (by first | with_reducible rfl | decide) ?_ | refine bcase_dec (fun _ => ?_) (fun _ => ?_) | refine bcase_not ?_ | refine bcase_intro (fun _ => ?_) (fun _ => ?_) | refine ⟨(by with_reducible rfl), ?_⟩ | refine ⟨congrArg vi ?_, ?_⟩ | refine ⟨congrArg vb ?_, ?_⟩ | refine ⟨rfl, ?_⟩ | refine ⟨(by kernel_rfl : drawOK _ = true), ?_⟩ | refine Or.inl ?_ | refine ⟨⟨congrArg (T.int _) ?_, rfl⟩, ?_⟩ | refine ⟨⟨congrArg T.bool ?_, rfl⟩, ?_⟩ | refine ⟨⟨rfl, Nat.le_of_ble_eq_true rfl⟩, ?_⟩ | refine ⟨⟨rfl, rfl⟩, ?_⟩ | refine ⟨⟨rfl, (by decide)⟩, ?_⟩ | refine ⟨⟨rfl, ?_⟩, ?_⟩ | refine ⟨Or.inr rfl, ?_⟩ | refine ⟨Or.inl rfl, ?_⟩ | refine ⟨⟨⟨rfl, rfl, rfl⟩, ?_⟩, ?_⟩ | refine ⟨_, _, rfl, row_get _ _ arith, rfl, ?_⟩ | refine ⟨Or.inr (by repeat (first | exact trivial | refine ⟨rfl, ?_⟩)), ?_⟩ | refine ⟨(?_ : _ = ([] : List (List T))), ?_⟩ | fail))
  all_goals first
    | rfl
    | exact set_map DServer.e w.Servers s { w.Servers[s] with Behavior := b }
    | skip
theorem set_self {l : List DDevice} {i : Nat} (h : i < l.length) : l.set i l[i] = l := by
  apply List.ext_getElem?
  intro j
  by_cases e : i = j
  · subst e; rw [List.getElem?_set_self h, List.getElem?_eq_getElem h]
  · rw [List.getElem?_set_ne e]
theorem c_SubmitMessage (w : DWorld) (c : Int) (m : List UInt8) (h : bigW w) (h8 : w.Devices.length ≤ 1048576) (hd : ∀ d ∈ w.Devices, d.Live.Submitted.length ≤ 1048576 ∧ d.Saved.Submitted.length ≤ 1048576) (hb : m.length ≤ 1099511627776) : FnAt Tryz.prog 11 [.agg (DWorld.e w), .one (I c), .one (L eU m)] [.agg (DWorld.r (submitW w c m)), .one (.s (.bool (subOk w c m)))] := by
  have hm := lenm DDevice.e w.Devices
  have hw := wlen h.2.1.1
  cases h1 : worldOk w with
  | false =>
    have e : subOk w c m = false := by unfold subOk crashOk; rw [h1]; rfl
    have e2 : submitW w c m = w := by unfold submitW; rw [e]; rfl
    rw [e, e2]
    refine fn_of Tryz.func11 rfl (by kernel_rfl) rfl ?_
    all_goals repeat' (first | (with_reducible rfl) | ((conv => whnf); first | refine ⟨_, c_copyWorld w h h8, ?_⟩ | refine ⟨_, c_IsValidWorld w h, ?_⟩ | refine bcase_T (by rw [h1]; rfl) ?_ | exact trivial | (with_reducible rfl) | exact (rfl : (0 : Int) = ((0 : Nat) : Int)) | exact w64_nat arith | refine bcase_T (by first | with_reducible rfl | decide) ?_ | refine bcase_F (by first | with_reducible rfl | decide) ?_ | refine bcase_dec (fun _ => ?_) (fun _ => ?_) | refine bcase_not ?_ | refine bcase_intro (fun _ => ?_) (fun _ => ?_) | refine ⟨(by with_reducible rfl), ?_⟩ | refine ⟨congrArg vi ?_, ?_⟩ | refine ⟨congrArg vb ?_, ?_⟩ | refine ⟨rfl, ?_⟩ | refine ⟨(by kernel_rfl : drawOK _ = true), ?_⟩ | refine Or.inl ?_ | refine ⟨⟨congrArg (T.int _) ?_, rfl⟩, ?_⟩ | refine ⟨⟨congrArg T.bool ?_, rfl⟩, ?_⟩ | refine ⟨⟨rfl, Nat.le_of_ble_eq_true rfl⟩, ?_⟩ | refine ⟨⟨rfl, rfl⟩, ?_⟩ | refine ⟨⟨rfl, (by decide)⟩, ?_⟩ | refine ⟨⟨rfl, ?_⟩, ?_⟩ | refine ⟨Or.inr rfl, ?_⟩ | refine ⟨Or.inl rfl, ?_⟩ | refine ⟨⟨⟨rfl, rfl, rfl⟩, ?_⟩, ?_⟩ | refine ⟨_, _, rfl, row_get _ _ arith, rfl, ?_⟩ | refine ⟨Or.inr (by repeat (first | exact trivial | refine ⟨rfl, ?_⟩)), ?_⟩ | refine ⟨(?_ : _ = ([] : List (List T))), ?_⟩ | fail))
    all_goals rfl
  | true =>
  cases h2 : hasCl w c with
  | false =>
    have e : subOk w c m = false := by unfold subOk crashOk; rw [h2, Bool.and_false]; rfl
    have e2 : submitW w c m = w := by unfold submitW; rw [e]; rfl
    have h2' : inR c 0 ((w.Devices.length : Int) - 1) = false := h2
    rw [e, e2]
    refine fn_of Tryz.func11 rfl (by kernel_rfl) rfl ?_
    all_goals repeat' (first | (with_reducible rfl) | ((conv => whnf); first | refine ⟨_, c_copyWorld w h h8, ?_⟩ | refine ⟨_, c_IsValidWorld w h, ?_⟩ | refine ⟨_, c_hasClient w c h.2.1.1, ?_⟩ | refine bcase_F (by rw [h1]; rfl) ?_ | refine bcase_T (by rw [h2]; rfl) ?_ | exact trivial | (with_reducible rfl) | exact (rfl : (0 : Int) = ((0 : Nat) : Int)) | exact w64_nat arith | refine bcase_T (by first | with_reducible rfl | decide) ?_ | refine bcase_F (by first | with_reducible rfl | decide) ?_ | refine bcase_dec (fun _ => ?_) (fun _ => ?_) | refine bcase_not ?_ | refine bcase_intro (fun _ => ?_) (fun _ => ?_) | refine ⟨(by with_reducible rfl), ?_⟩ | refine ⟨congrArg vi ?_, ?_⟩ | refine ⟨congrArg vb ?_, ?_⟩ | refine ⟨rfl, ?_⟩ | refine ⟨(by kernel_rfl : drawOK _ = true), ?_⟩ | refine Or.inl ?_ | refine ⟨⟨congrArg (T.int _) ?_, rfl⟩, ?_⟩ | refine ⟨⟨congrArg T.bool ?_, rfl⟩, ?_⟩ | refine ⟨⟨rfl, Nat.le_of_ble_eq_true rfl⟩, ?_⟩ | refine ⟨⟨rfl, rfl⟩, ?_⟩ | refine ⟨⟨rfl, (by decide)⟩, ?_⟩ | refine ⟨⟨rfl, ?_⟩, ?_⟩ | refine ⟨Or.inr rfl, ?_⟩ | refine ⟨Or.inl rfl, ?_⟩ | refine ⟨⟨⟨rfl, rfl, rfl⟩, ?_⟩, ?_⟩ | refine ⟨_, _, rfl, row_get _ _ arith, rfl, ?_⟩ | refine ⟨Or.inr (by repeat (first | exact trivial | refine ⟨rfl, ?_⟩)), ?_⟩ | refine ⟨(?_ : _ = ([] : List (List T))), ?_⟩ | fail))
    all_goals rfl
  | true =>
  have h2' : inR c 0 ((w.Devices.length : Int) - 1) = true := h2
  have h3 := inR_iff.1 h2'
  obtain ⟨c, rfl⟩ := Int.eq_ofNat_of_zero_le h3.1
  have hc : c < w.Devices.length := by omega
  have hcd := hd _ (List.getElem_mem hc)
  cases h4 : submitOk w.Devices[c] m with
  | false =>
    have e : subOk w c m = false := by unfold subOk crashOk; simp only [Int.toNat_natCast, List.getElem?_eq_getElem hc, h4, Bool.and_false]
    have e2 : submitW w c m = w := by unfold submitW; rw [e]; rfl
    have e3 : submitD w.Devices[c] m = w.Devices[c] := by unfold submitD; rw [h4]; rfl
    rw [e, e2]
    refine fn_of Tryz.func11 rfl (by kernel_rfl) rfl ?_
    all_goals repeat' (first | (with_reducible rfl) | ((conv => whnf); first | refine ⟨_, c_copyWorld w h h8, ?_⟩ | refine ⟨_, c_IsValidWorld w h, ?_⟩ | refine ⟨_, c_hasClient w c h.2.1.1, ?_⟩ | refine bcase_F (by rw [h1]; rfl) ?_ | refine bcase_F (by rw [h2]; rfl) ?_ | refine ⟨c, _, rfl, row_get _ _ hc, rfl, ?_⟩ | refine ⟨_, c_SubmitToDevice w.Devices[c] m (h.2.1.2 _ (List.getElem_mem _)) hcd.1 hcd.2 hb, ?_⟩ | refine bcase_F h4 ?_ | refine ⟨c, rfl, (by omega), ?_⟩ | refine ⟨_, row_get _ _ hc, ⟨rfl, Nat.le_of_ble_eq_true rfl⟩, ?_⟩ | exact trivial | (with_reducible rfl) | exact (rfl : (0 : Int) = ((0 : Nat) : Int)) | exact w64_nat arith | refine bcase_T (by first | with_reducible rfl | decide) ?_ | refine bcase_F (by first | with_reducible rfl | decide) ?_ | refine bcase_dec (fun _ => ?_) (fun _ => ?_) | refine bcase_not ?_ | refine bcase_intro (fun _ => ?_) (fun _ => ?_) | refine ⟨(by with_reducible rfl), ?_⟩ | refine ⟨congrArg vi ?_, ?_⟩ | refine ⟨congrArg vb ?_, ?_⟩ | refine ⟨rfl, ?_⟩ | refine ⟨(by kernel_rfl : drawOK _ = true), ?_⟩ | refine Or.inl ?_ | refine ⟨⟨congrArg (T.int _) ?_, rfl⟩, ?_⟩ | refine ⟨⟨congrArg T.bool ?_, rfl⟩, ?_⟩ | refine ⟨⟨rfl, Nat.le_of_ble_eq_true rfl⟩, ?_⟩ | refine ⟨⟨rfl, rfl⟩, ?_⟩ | refine ⟨⟨rfl, (by decide)⟩, ?_⟩ | refine ⟨⟨rfl, ?_⟩, ?_⟩ | refine ⟨Or.inr rfl, ?_⟩ | refine ⟨Or.inl rfl, ?_⟩ | refine ⟨⟨⟨rfl, rfl, rfl⟩, ?_⟩, ?_⟩ | refine ⟨_, _, rfl, row_get _ _ arith, rfl, ?_⟩ | refine ⟨Or.inr (by repeat (first | exact trivial | refine ⟨rfl, ?_⟩)), ?_⟩ | refine ⟨(?_ : _ = ([] : List (List T))), ?_⟩ | fail))
    all_goals first
      | rfl
      | exact h4
      | exact (set_map DDevice.e w.Devices c (submitD w.Devices[c] m)).trans (by rw [e3, set_self hc])
      | skip
  | true =>
  have e : subOk w c m = true := by unfold subOk crashOk; simp only [Int.toNat_natCast, List.getElem?_eq_getElem hc, h4, h1, h2, Bool.and_self]
  have e2 : submitW w c m = { w with Devices := w.Devices.set c (submitD w.Devices[c] m) } := by unfold submitW; rw [e, if_pos rfl, setDev_in (by simpa using hc)]; rfl
  rw [e, e2]
  refine fn_of Tryz.func11 rfl (by kernel_rfl) rfl ?_
  all_goals repeat' (first | (with_reducible rfl) | ((conv => whnf); first | refine ⟨_, c_copyWorld w h h8, ?_⟩ | refine ⟨_, c_IsValidWorld w h, ?_⟩ | refine ⟨_, c_hasClient w c h.2.1.1, ?_⟩ | refine bcase_F (by rw [h1]; rfl) ?_ | refine bcase_F (by rw [h2]; rfl) ?_ | refine ⟨c, _, rfl, row_get _ _ hc, rfl, ?_⟩ | refine ⟨_, c_SubmitToDevice w.Devices[c] m (h.2.1.2 _ (List.getElem_mem _)) hcd.1 hcd.2 hb, ?_⟩ | refine bcase_T h4 ?_ | refine ⟨c, rfl, (by omega), ?_⟩ | refine ⟨_, row_get _ _ hc, ⟨rfl, Nat.le_of_ble_eq_true rfl⟩, ?_⟩ | exact trivial | (with_reducible rfl) | exact (rfl : (0 : Int) = ((0 : Nat) : Int)) | exact w64_nat arith | refine bcase_T (by first | with_reducible rfl | decide) ?_ | refine bcase_F (by first | with_reducible rfl | decide) ?_ | refine bcase_dec (fun _ => ?_) (fun _ => ?_) | refine bcase_not ?_ | refine bcase_intro (fun _ => ?_) (fun _ => ?_) | refine ⟨(by with_reducible rfl), ?_⟩ | refine ⟨congrArg vi ?_, ?_⟩ | refine ⟨congrArg vb ?_, ?_⟩ | refine ⟨rfl, ?_⟩ | refine ⟨(by kernel_rfl : drawOK _ = true), ?_⟩ | refine Or.inl ?_ | refine ⟨⟨congrArg (T.int _) ?_, rfl⟩, ?_⟩ | refine ⟨⟨congrArg T.bool ?_, rfl⟩, ?_⟩ | refine ⟨⟨rfl, Nat.le_of_ble_eq_true rfl⟩, ?_⟩ | refine ⟨⟨rfl, rfl⟩, ?_⟩ | refine ⟨⟨rfl, (by decide)⟩, ?_⟩ | refine ⟨⟨rfl, ?_⟩, ?_⟩ | refine ⟨Or.inr rfl, ?_⟩ | refine ⟨Or.inl rfl, ?_⟩ | refine ⟨⟨⟨rfl, rfl, rfl⟩, ?_⟩, ?_⟩ | refine ⟨_, _, rfl, row_get _ _ arith, rfl, ?_⟩ | refine ⟨Or.inr (by repeat (first | exact trivial | refine ⟨rfl, ?_⟩)), ?_⟩ | refine ⟨(?_ : _ = ([] : List (List T))), ?_⟩ | fail))
  all_goals first
    | rfl
    | exact h4
    | exact set_map DDevice.e w.Devices c (submitD w.Devices[c] m)
    | skip
theorem c_sSubmitMessage (w : DWorld) (c : Int) (m : List UInt8) (h : bigW w) (h8 : w.Devices.length ≤ 1048576) (hd : ∀ d ∈ w.Devices, d.Live.Submitted.length ≤ 1048576 ∧ d.Saved.Submitted.length ≤ 1048576) (hb : m.length ≤ 1099511627776) : FnAt Tryz.prog 12 [.agg (DWorld.e w), .one (I c), .one (L eU m)] [.agg (DWorld.r (submitW w c m)), .one (.s (.bool (subOk w c m)))] := by
  have hm := lenm DDevice.e w.Devices
  have hw := wlen h.2.1.1
  cases h1 : worldOk w with
  | false =>
    have e : subOk w c m = false := by unfold subOk crashOk; rw [h1]; rfl
    have e2 : submitW w c m = w := by unfold submitW; rw [e]; rfl
    rw [e, e2]
    refine fn_of Tryz.func12 rfl (by kernel_rfl) rfl ?_
    all_goals repeat' (first | (with_reducible rfl) | ((conv => whnf); first | refine ⟨_, c_l32Copy w h h8, ?_⟩ | refine ⟨_, c_sIsValidWorld w h, ?_⟩ | refine bcase_T (by rw [h1]; rfl) ?_ | exact trivial | (with_reducible rfl) | exact (rfl : (0 : Int) = ((0 : Nat) : Int)) | exact w64_nat arith | refine bcase_T (by first | with_reducible rfl | decide) ?_ | refine bcase_F (by first | with_reducible rfl | decide) ?_ | refine bcase_dec (fun _ => ?_) (fun _ => ?_) | refine bcase_not ?_ | refine bcase_intro (fun _ => ?_) (fun _ => ?_) | refine ⟨(by with_reducible rfl), ?_⟩ | refine ⟨congrArg vi ?_, ?_⟩ | refine ⟨congrArg vb ?_, ?_⟩ | refine ⟨rfl, ?_⟩ | refine ⟨(by kernel_rfl : drawOK _ = true), ?_⟩ | refine Or.inl ?_ | refine ⟨⟨congrArg (T.int _) ?_, rfl⟩, ?_⟩ | refine ⟨⟨congrArg T.bool ?_, rfl⟩, ?_⟩ | refine ⟨⟨rfl, Nat.le_of_ble_eq_true rfl⟩, ?_⟩ | refine ⟨⟨rfl, rfl⟩, ?_⟩ | refine ⟨⟨rfl, (by decide)⟩, ?_⟩ | refine ⟨⟨rfl, ?_⟩, ?_⟩ | refine ⟨Or.inr rfl, ?_⟩ | refine ⟨Or.inl rfl, ?_⟩ | refine ⟨⟨⟨rfl, rfl, rfl⟩, ?_⟩, ?_⟩ | refine ⟨_, _, rfl, row_get _ _ arith, rfl, ?_⟩ | refine ⟨Or.inr (by repeat (first | exact trivial | refine ⟨rfl, ?_⟩)), ?_⟩ | refine ⟨(?_ : _ = ([] : List (List T))), ?_⟩ | fail))
    all_goals rfl
  | true =>
  cases h2 : hasCl w c with
  | false =>
    have e : subOk w c m = false := by unfold subOk crashOk; rw [h2, Bool.and_false]; rfl
    have e2 : submitW w c m = w := by unfold submitW; rw [e]; rfl
    have h2' : inR c 0 ((w.Devices.length : Int) - 1) = false := h2
    rw [e, e2]
    refine fn_of Tryz.func12 rfl (by kernel_rfl) rfl ?_
    all_goals repeat' (first | (with_reducible rfl) | ((conv => whnf); first | refine ⟨_, c_l32Copy w h h8, ?_⟩ | refine ⟨_, c_sIsValidWorld w h, ?_⟩ | refine ⟨_, fn_args (c_l1In c 0 ((w.Devices.length : Int) - 1)) (by rw [hm, hw]; rfl), ?_⟩ | refine bcase_F (by rw [h1]; rfl) ?_ | refine bcase_T (by rw [h2']; rfl) ?_ | exact trivial | (with_reducible rfl) | exact (rfl : (0 : Int) = ((0 : Nat) : Int)) | exact w64_nat arith | refine bcase_T (by first | with_reducible rfl | decide) ?_ | refine bcase_F (by first | with_reducible rfl | decide) ?_ | refine bcase_dec (fun _ => ?_) (fun _ => ?_) | refine bcase_not ?_ | refine bcase_intro (fun _ => ?_) (fun _ => ?_) | refine ⟨(by with_reducible rfl), ?_⟩ | refine ⟨congrArg vi ?_, ?_⟩ | refine ⟨congrArg vb ?_, ?_⟩ | refine ⟨rfl, ?_⟩ | refine ⟨(by kernel_rfl : drawOK _ = true), ?_⟩ | refine Or.inl ?_ | refine ⟨⟨congrArg (T.int _) ?_, rfl⟩, ?_⟩ | refine ⟨⟨congrArg T.bool ?_, rfl⟩, ?_⟩ | refine ⟨⟨rfl, Nat.le_of_ble_eq_true rfl⟩, ?_⟩ | refine ⟨⟨rfl, rfl⟩, ?_⟩ | refine ⟨⟨rfl, (by decide)⟩, ?_⟩ | refine ⟨⟨rfl, ?_⟩, ?_⟩ | refine ⟨Or.inr rfl, ?_⟩ | refine ⟨Or.inl rfl, ?_⟩ | refine ⟨⟨⟨rfl, rfl, rfl⟩, ?_⟩, ?_⟩ | refine ⟨_, _, rfl, row_get _ _ arith, rfl, ?_⟩ | refine ⟨Or.inr (by repeat (first | exact trivial | refine ⟨rfl, ?_⟩)), ?_⟩ | refine ⟨(?_ : _ = ([] : List (List T))), ?_⟩ | fail))
    all_goals rfl
  | true =>
  have h2' : inR c 0 ((w.Devices.length : Int) - 1) = true := h2
  have h3 := inR_iff.1 h2'
  obtain ⟨c, rfl⟩ := Int.eq_ofNat_of_zero_le h3.1
  have hc : c < w.Devices.length := by omega
  have hcd := hd _ (List.getElem_mem hc)
  cases h4 : submitOk w.Devices[c] m with
  | false =>
    have e : subOk w c m = false := by unfold subOk crashOk; simp only [Int.toNat_natCast, List.getElem?_eq_getElem hc, h4, Bool.and_false]
    have e2 : submitW w c m = w := by unfold submitW; rw [e]; rfl
    have e3 : submitD w.Devices[c] m = w.Devices[c] := by unfold submitD; rw [h4]; rfl
    rw [e, e2]
    refine fn_of Tryz.func12 rfl (by kernel_rfl) rfl ?_
    all_goals repeat' (first | (with_reducible rfl) | ((conv => whnf); first | refine ⟨_, c_l32Copy w h h8, ?_⟩ | refine ⟨_, c_sIsValidWorld w h, ?_⟩ | refine ⟨_, fn_args (c_l1In c 0 ((w.Devices.length : Int) - 1)) (by rw [hm, hw]; rfl), ?_⟩ | refine bcase_F (by rw [h1]; rfl) ?_ | refine bcase_F (by rw [h2']; rfl) ?_ | refine ⟨c, _, rfl, row_get _ _ hc, rfl, ?_⟩ | refine ⟨_, c_sSubmitToDevice w.Devices[c] m (h.2.1.2 _ (List.getElem_mem _)) hcd.1 hcd.2 hb, ?_⟩ | refine bcase_F h4 ?_ | refine ⟨c, rfl, (by omega), ?_⟩ | refine ⟨_, row_get _ _ hc, ⟨rfl, Nat.le_of_ble_eq_true rfl⟩, ?_⟩ | exact trivial | (with_reducible rfl) | exact (rfl : (0 : Int) = ((0 : Nat) : Int)) | exact w64_nat arith | refine bcase_T (by first | with_reducible rfl | decide) ?_ | refine bcase_F (by first | with_reducible rfl | decide) ?_ | refine bcase_dec (fun _ => ?_) (fun _ => ?_) | refine bcase_not ?_ | refine bcase_intro (fun _ => ?_) (fun _ => ?_) | refine ⟨(by with_reducible rfl), ?_⟩ | refine ⟨congrArg vi ?_, ?_⟩ | refine ⟨congrArg vb ?_, ?_⟩ | refine ⟨rfl, ?_⟩ | refine ⟨(by kernel_rfl : drawOK _ = true), ?_⟩ | refine Or.inl ?_ | refine ⟨⟨congrArg (T.int _) ?_, rfl⟩, ?_⟩ | refine ⟨⟨congrArg T.bool ?_, rfl⟩, ?_⟩ | refine ⟨⟨rfl, Nat.le_of_ble_eq_true rfl⟩, ?_⟩ | refine ⟨⟨rfl, rfl⟩, ?_⟩ | refine ⟨⟨rfl, (by decide)⟩, ?_⟩ | refine ⟨⟨rfl, ?_⟩, ?_⟩ | refine ⟨Or.inr rfl, ?_⟩ | refine ⟨Or.inl rfl, ?_⟩ | refine ⟨⟨⟨rfl, rfl, rfl⟩, ?_⟩, ?_⟩ | refine ⟨_, _, rfl, row_get _ _ arith, rfl, ?_⟩ | refine ⟨Or.inr (by repeat (first | exact trivial | refine ⟨rfl, ?_⟩)), ?_⟩ | refine ⟨(?_ : _ = ([] : List (List T))), ?_⟩ | fail))
    all_goals first
      | rfl
      | exact h4
      | exact (set_map DDevice.e w.Devices c (submitD w.Devices[c] m)).trans (by rw [e3, set_self hc])
      | skip
  | true =>
  have e : subOk w c m = true := by unfold subOk crashOk; simp only [Int.toNat_natCast, List.getElem?_eq_getElem hc, h4, h1, h2, Bool.and_self]
  have e2 : submitW w c m = { w with Devices := w.Devices.set c (submitD w.Devices[c] m) } := by unfold submitW; rw [e, if_pos rfl, setDev_in (by simpa using hc)]; rfl
  rw [e, e2]
  refine fn_of Tryz.func12 rfl (by kernel_rfl) rfl ?_
  all_goals repeat' (first | (with_reducible rfl) | ((conv => whnf); first | refine ⟨_, c_l32Copy w h h8, ?_⟩ | refine ⟨_, c_sIsValidWorld w h, ?_⟩ | refine ⟨_, fn_args (c_l1In c 0 ((w.Devices.length : Int) - 1)) (by rw [hm, hw]; rfl), ?_⟩ | refine bcase_F (by rw [h1]; rfl) ?_ | refine bcase_F (by rw [h2']; rfl) ?_ | refine ⟨c, _, rfl, row_get _ _ hc, rfl, ?_⟩ | refine ⟨_, c_sSubmitToDevice w.Devices[c] m (h.2.1.2 _ (List.getElem_mem _)) hcd.1 hcd.2 hb, ?_⟩ | refine bcase_T h4 ?_ | refine ⟨c, rfl, (by omega), ?_⟩ | refine ⟨_, row_get _ _ hc, ⟨rfl, Nat.le_of_ble_eq_true rfl⟩, ?_⟩ | exact trivial | (with_reducible rfl) | exact (rfl : (0 : Int) = ((0 : Nat) : Int)) | exact w64_nat arith | refine bcase_T (by first | with_reducible rfl | decide) ?_ | refine bcase_F (by first | with_reducible rfl | decide) ?_ | refine bcase_dec (fun _ => ?_) (fun _ => ?_) | refine bcase_not ?_ | refine bcase_intro (fun _ => ?_) (fun _ => ?_) | refine ⟨(by with_reducible rfl), ?_⟩ | refine ⟨congrArg vi ?_, ?_⟩ | refine ⟨congrArg vb ?_, ?_⟩ | refine ⟨rfl, ?_⟩ | refine ⟨(by kernel_rfl : drawOK _ = true), ?_⟩ | refine Or.inl ?_ | refine ⟨⟨congrArg (T.int _) ?_, rfl⟩, ?_⟩ | refine ⟨⟨congrArg T.bool ?_, rfl⟩, ?_⟩ | refine ⟨⟨rfl, Nat.le_of_ble_eq_true rfl⟩, ?_⟩ | refine ⟨⟨rfl, rfl⟩, ?_⟩ | refine ⟨⟨rfl, (by decide)⟩, ?_⟩ | refine ⟨⟨rfl, ?_⟩, ?_⟩ | refine ⟨Or.inr rfl, ?_⟩ | refine ⟨Or.inl rfl, ?_⟩ | refine ⟨⟨⟨rfl, rfl, rfl⟩, ?_⟩, ?_⟩ | refine ⟨_, _, rfl, row_get _ _ arith, rfl, ?_⟩ | refine ⟨Or.inr (by repeat (first | exact trivial | refine ⟨rfl, ?_⟩)), ?_⟩ | refine ⟨(?_ : _ = ([] : List (List T))), ?_⟩ | fail))
  all_goals first
    | rfl
    | exact h4
    | exact set_map DDevice.e w.Devices c (submitD w.Devices[c] m)
    | skip
end Go.Proofs.YteecgbgdmfjogaaGreat
