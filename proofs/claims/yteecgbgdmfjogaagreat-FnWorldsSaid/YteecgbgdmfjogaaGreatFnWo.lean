/-
  Contracts: worlds that are valid; seeds of a write.
  Conditions: none.
-/
import Derived.Test.YteecgbgdmfjogaaGreatFnEq
namespace Go.Proofs.YteecgbgdmfjogaaGreat
set_option maxHeartbeats 4000000
set_option maxRecDepth 20000
open Go.Vm Go.RowKit
attribute [local irreducible] FnAt MutAt InAt JAt CurAt FnE CurE RegAt

theorem xor1_run {i : Nat} (h : i < 1000) : bits .xor .i64 (i : Int) 1 = ((i ^^^ 1 : Nat) : Int) := by
  show IntKind.i64.wrap ((BitVec.ofInt 64 (i : Int) ^^^ BitVec.ofInt 64 1).toNat : Int) = _
  have h1 : (BitVec.ofInt 64 (i : Int)).toNat = i := by rw [BitVec.toNat_ofInt]; omega
  have h2 : i ^^^ 1 < 2 ^ 10 := Nat.xor_lt_two_pow (by omega) (by omega)
  rw [BitVec.toNat_xor, h1]
  change IntKind.i64.wrap ((i ^^^ 1 : Nat) : Int) = _
  generalize i ^^^ 1 = m at *
  exact w64_ok (by omega) (by omega)
theorem xor1_lt (n : Nat) (h : n < 9) (h2 : n % 2 = 0) (i : Nat) (hi : i < n) : i ^^^ 1 < n := by
  have : i = 0 ∨ i = 1 ∨ i = 2 ∨ i = 3 ∨ i = 4 ∨ i = 5 ∨ i = 6 ∨ i = 7 := by omega
  rcases this with rfl | rfl | rfl | rfl | rfl | rfl | rfl | rfl <;> simp only [Nat.reduceXor] <;> omega
attribute [local irreducible] bits archOk servOk devOk lastRound
def servIn (w : DWorld) (j : Nat) : Bool := match w.Servers[j]? with
  | none => true
  | some s => servOk s && decide (s.Id = j) && decide (s.Rows = w.Rows) && decide (s.Round = w.Round) && decide (s.Received.length = 0)
theorem servIn_eq (w : DWorld) {i : Nat} (h : i < w.Servers.length) : servIn w i = (servOk w.Servers[i] && decide (w.Servers[i].Id = i) && decide (w.Servers[i].Rows = w.Rows) && decide (w.Servers[i].Round = w.Round) && decide (w.Servers[i].Received.length = 0)) := by
  simp only [servIn, List.getElem?_eq_getElem h]
def devIn (w : DWorld) (j : Nat) : Bool := match w.Devices[j]?, w.Devices[j ^^^ 1]? with
  | some d, some q => devOk d && decide (d.Live.Id = j) && decide (d.Live.Friend = ((j ^^^ 1 : Nat) : Int)) && decide (d.Live.Key = q.Live.Key) && decide (d.Live.Next ≤ w.Round)
  | _, _ => true
theorem devIn_eq (w : DWorld) {i : Nat} (h : i < w.Devices.length) (h2 : i ^^^ 1 < w.Devices.length) : devIn w i = (devOk w.Devices[i] && decide (w.Devices[i].Live.Id = i) && decide (w.Devices[i].Live.Friend = ((i ^^^ 1 : Nat) : Int)) && decide (w.Devices[i].Live.Key = w.Devices[i ^^^ 1].Live.Key) && decide (w.Devices[i].Live.Next ≤ w.Round)) := by
  simp only [devIn, List.getElem?_eq_getElem h, List.getElem?_eq_getElem h2]
def servsIn (w : DWorld) : Bool := allN (servIn w) w.Servers.length 0 && inR w.Servers.length 2 4
def evenIn (w : DWorld) : Bool := decide (w.Devices.length % 2 = 0) && inR w.Devices.length 2 8
def devsIn (w : DWorld) : Bool := allN (devIn w) w.Devices.length 0 && evenIn w
def worldHd (w : DWorld) : Bool := inR w.Rows 1 64 && inR w.Servers.length 2 4 && evenIn w && archOk w.Archive && decide (w.Archive.Rows = w.Rows) && decide (lastRound w.Archive < w.Round) && inR w.Master 1 2147483646 && inR w.Round 0 100000 && decide (0 ≤ w.Cancelled)
def worldOk (w : DWorld) : Bool := allN (servIn w) w.Servers.length 0 && allN (devIn w) w.Devices.length 0 && worldHd w
theorem rem2 (n : Nat) : ((n : Int).tmod 2 = 0) ↔ n % 2 = 0 := by rw [Int.tmod_eq_emod_of_nonneg (by omega)]; omega
theorem c_l32Servers (w : DWorld) (h : bigW w) : FnAt Tryz.prog 87 [.agg (DWorld.e w)] [.one (.s (.bool (servsIn w)))] := by
  have hx := h.1.1
  have hm := lenm DServer.e w.Servers
  refine fn_of Tryz.func87 rfl (by kernel_rfl) rfl ?_
  all_goals repeat' (first | (with_reducible rfl) | ((conv => whnf); first | exact trivial | (with_reducible rfl) | exact (rfl : (0 : Int) = ((0 : Nat) : Int)) | exact w64_nat arith | refine bcase_T (by first | with_reducible rfl | decide) ?_ | refine bcase_F (by first | with_reducible rfl | decide) ?_ | refine bcase_dec (fun _ => ?_) (fun _ => ?_) | refine bcase_not ?_ | refine bcase_intro (fun _ => ?_) (fun _ => ?_) | refine ⟨(by with_reducible rfl), ?_⟩ | refine ⟨congrArg vi ?_, ?_⟩ | refine ⟨congrArg vb ?_, ?_⟩ | refine ⟨rfl, ?_⟩ | refine ⟨(by kernel_rfl : drawOK _ = true), ?_⟩ | refine Or.inl ?_ | refine ⟨⟨congrArg (T.int _) ?_, rfl⟩, ?_⟩ | refine ⟨⟨congrArg T.bool ?_, rfl⟩, ?_⟩ | refine ⟨⟨rfl, Nat.le_of_ble_eq_true rfl⟩, ?_⟩ | refine ⟨⟨rfl, rfl⟩, ?_⟩ | refine ⟨⟨rfl, (by decide)⟩, ?_⟩ | refine ⟨⟨rfl, ?_⟩, ?_⟩ | refine ⟨Or.inr rfl, ?_⟩ | refine ⟨Or.inl rfl, ?_⟩ | refine ⟨⟨⟨rfl, rfl, rfl⟩, ?_⟩, ?_⟩ | refine ⟨_, _, rfl, row_get _ _ arith, rfl, ?_⟩ | refine ⟨Or.inr (by repeat (first | exact trivial | refine ⟨rfl, ?_⟩)), ?_⟩ | refine ⟨(?_ : _ = ([] : List (List T))), ?_⟩ | fail))
  conv => whnf
  refine ⟨Nat, fun i => i ≤ w.Servers.length ∧ allN (servIn w) w.Servers.length 0 = allN (servIn w) (w.Servers.length - i) i, fun i => ⟨[(1, .ptr 0 0), (3, vi i)], [(0, .box ((DWorld.e w).map .t))], 1⟩, fun i => w.Servers.length - i, 0, ⟨Nat.zero_le _, rfl⟩, sub_at [(0, 1)] rfl rfl rfl ?_ ?_, fun i hi => ?_⟩
  all_goals repeat' (first | (with_reducible rfl) | ((conv => whnf); first | exact trivial | (with_reducible rfl) | exact (rfl : (0 : Int) = ((0 : Nat) : Int)) | exact w64_nat arith | refine bcase_T (by first | with_reducible rfl | decide) ?_ | refine bcase_F (by first | with_reducible rfl | decide) ?_ | refine bcase_dec (fun _ => ?_) (fun _ => ?_) | refine bcase_not ?_ | refine bcase_intro (fun _ => ?_) (fun _ => ?_) | refine ⟨(by with_reducible rfl), ?_⟩ | refine ⟨congrArg vi ?_, ?_⟩ | refine ⟨congrArg vb ?_, ?_⟩ | refine ⟨rfl, ?_⟩ | refine ⟨(by kernel_rfl : drawOK _ = true), ?_⟩ | refine Or.inl ?_ | refine ⟨⟨congrArg (T.int _) ?_, rfl⟩, ?_⟩ | refine ⟨⟨congrArg T.bool ?_, rfl⟩, ?_⟩ | refine ⟨⟨rfl, Nat.le_of_ble_eq_true rfl⟩, ?_⟩ | refine ⟨⟨rfl, rfl⟩, ?_⟩ | refine ⟨⟨rfl, (by decide)⟩, ?_⟩ | refine ⟨⟨rfl, ?_⟩, ?_⟩ | refine ⟨Or.inr rfl, ?_⟩ | refine ⟨Or.inl rfl, ?_⟩ | refine ⟨⟨⟨rfl, rfl, rfl⟩, ?_⟩, ?_⟩ | refine ⟨_, _, rfl, row_get _ _ arith, rfl, ?_⟩ | refine ⟨Or.inr (by repeat (first | exact trivial | refine ⟨rfl, ?_⟩)), ?_⟩ | refine ⟨(?_ : _ = ([] : List (List T))), ?_⟩ | refine ⟨_, c_sIsValidServer (w.Servers[i]'(by omega)) (h.1.2 _ (List.getElem_mem _)), ?_⟩ | refine ⟨i, _, rfl, row_get _ _ (by omega), rfl, ?_⟩ | refine ⟨_, fn_args (c_l7Count w.Servers.length) (by rw [hm]; rfl), ?_⟩ | refine ⟨i + 1, ⟨⟨arith, ?_⟩, arith⟩, sub_at [(0, 1)] rfl rfl rfl ?_ ?_⟩ | fail))
  all_goals first
    | (have h0 : i < w.Servers.length := (by omega); rw [hi.2, allN_T h0 (by rw [servIn_eq _ h0]; have hq := lenm DReceivedShare.e w.Servers[i].Received; first | (simp_all; done) | (simp_all; omega) | grind)]; done)
    | (have h0 : i < w.Servers.length := (by omega); unfold servsIn; rw [hi.2, allN_F h0 (by rw [servIn_eq _ h0]; have hq := lenm DReceivedShare.e w.Servers[i].Received; first | (simp_all; done) | (simp_all; omega) | grind)]; rfl)
    | (unfold servsIn; rw [hi.2, allN_end (by omega), Bool.true_and]; done)
    | skip
theorem c_l32Devices (w : DWorld) (h : bigW w) : FnAt Tryz.prog 88 [.agg (DWorld.e w)] [.one (.s (.bool (devsIn w)))] := by
  have hx := h.2.1.1
  have hm := lenm DDevice.e w.Devices
  have hrem := rem2 w.Devices.length
  by_cases he : evenIn w = true
  case neg =>
    have e : devsIn w = false := by unfold devsIn; rw [eq_false_of_ne_true he, Bool.and_false]
    rw [e]
    refine fn_of Tryz.func88 rfl (by kernel_rfl) rfl ?_
    all_goals repeat' (first | (with_reducible rfl) | ((conv => whnf); first | exact trivial | (with_reducible rfl) | exact (rfl : (0 : Int) = ((0 : Nat) : Int)) | exact w64_nat arith | refine bcase_T (by first | with_reducible rfl | decide) ?_ | refine bcase_F (by first | with_reducible rfl | decide) ?_ | refine bcase_dec (fun _ => ?_) (fun _ => ?_) | refine bcase_not ?_ | refine bcase_intro (fun _ => ?_) (fun _ => ?_) | refine ⟨(by with_reducible rfl), ?_⟩ | refine ⟨congrArg vi ?_, ?_⟩ | refine ⟨congrArg vb ?_, ?_⟩ | refine ⟨rfl, ?_⟩ | refine ⟨(by kernel_rfl : drawOK _ = true), ?_⟩ | refine Or.inl ?_ | refine ⟨⟨congrArg (T.int _) ?_, rfl⟩, ?_⟩ | refine ⟨⟨congrArg T.bool ?_, rfl⟩, ?_⟩ | refine ⟨⟨rfl, Nat.le_of_ble_eq_true rfl⟩, ?_⟩ | refine ⟨⟨rfl, rfl⟩, ?_⟩ | refine ⟨⟨rfl, (by decide)⟩, ?_⟩ | refine ⟨⟨rfl, ?_⟩, ?_⟩ | refine ⟨Or.inr rfl, ?_⟩ | refine ⟨Or.inl rfl, ?_⟩ | refine ⟨⟨⟨rfl, rfl, rfl⟩, ?_⟩, ?_⟩ | refine ⟨_, _, rfl, row_get _ _ arith, rfl, ?_⟩ | refine ⟨Or.inr (by repeat (first | exact trivial | refine ⟨rfl, ?_⟩)), ?_⟩ | refine ⟨(?_ : _ = ([] : List (List T))), ?_⟩ | refine ⟨_, c_l1In _ _ _, ?_⟩ | refine ⟨(by decide : (2 : Int) ≠ 0), ?_⟩ | fail))
    all_goals first
      | rfl
      | (exfalso; apply he; unfold evenIn; rw [hm] at *; simp_all; done)
      | skip
  have he' := he
  simp only [evenIn, Bool.and_eq_true, decide_eq_true_eq] at he'
  obtain ⟨h1, h2⟩ := he'
  have h3 := inR_iff.1 h2
  have hp := hrem.2 h1
  have hxl : ∀ i, i < w.Devices.length → i ^^^ 1 < w.Devices.length := xor1_lt _ (by omega) h1
  have hxr : ∀ i : Nat, i < w.Devices.length → bits .xor .i64 (i : Int) 1 = ((i ^^^ 1 : Nat) : Int) := fun i hi => xor1_run (by omega)
  refine fn_of Tryz.func88 rfl (by kernel_rfl) rfl ?_
  all_goals repeat' (first | (with_reducible rfl) | ((conv => whnf); first | refine ⟨_, c_l1In _ _ _, ?_⟩ | refine ⟨(by decide : (2 : Int) ≠ 0), ?_⟩ | refine bcase_F (by rw [hm]; exact bne_eq_false_iff_eq.2 hp) ?_ | refine bcase_F (by rw [hm, h2]; rfl) ?_ | exact trivial | (with_reducible rfl) | exact (rfl : (0 : Int) = ((0 : Nat) : Int)) | exact w64_nat arith | refine bcase_T (by first | with_reducible rfl | decide) ?_ | refine bcase_F (by first | with_reducible rfl | decide) ?_ | refine bcase_dec (fun _ => ?_) (fun _ => ?_) | refine bcase_not ?_ | refine bcase_intro (fun _ => ?_) (fun _ => ?_) | refine ⟨(by with_reducible rfl), ?_⟩ | refine ⟨congrArg vi ?_, ?_⟩ | refine ⟨congrArg vb ?_, ?_⟩ | refine ⟨rfl, ?_⟩ | refine ⟨(by kernel_rfl : drawOK _ = true), ?_⟩ | refine Or.inl ?_ | refine ⟨⟨congrArg (T.int _) ?_, rfl⟩, ?_⟩ | refine ⟨⟨congrArg T.bool ?_, rfl⟩, ?_⟩ | refine ⟨⟨rfl, Nat.le_of_ble_eq_true rfl⟩, ?_⟩ | refine ⟨⟨rfl, rfl⟩, ?_⟩ | refine ⟨⟨rfl, (by decide)⟩, ?_⟩ | refine ⟨⟨rfl, ?_⟩, ?_⟩ | refine ⟨Or.inr rfl, ?_⟩ | refine ⟨Or.inl rfl, ?_⟩ | refine ⟨⟨⟨rfl, rfl, rfl⟩, ?_⟩, ?_⟩ | refine ⟨_, _, rfl, row_get _ _ arith, rfl, ?_⟩ | refine ⟨Or.inr (by repeat (first | exact trivial | refine ⟨rfl, ?_⟩)), ?_⟩ | refine ⟨(?_ : _ = ([] : List (List T))), ?_⟩ | fail))
  conv => whnf
  refine ⟨Nat, fun i => i ≤ w.Devices.length ∧ allN (devIn w) w.Devices.length 0 = allN (devIn w) (w.Devices.length - i) i, fun i => ⟨[(1, .ptr 0 0), (3, vi w.Devices.length), (4, vi i)], [(0, .box ((DWorld.e w).map .t))], 1⟩, fun i => w.Devices.length - i, 0, ⟨Nat.zero_le _, rfl⟩, sub_at [(0, 1)] rfl rfl rfl ?_ ?_, fun i hi => ?_⟩
  all_goals repeat' (first | (with_reducible rfl) | ((conv => whnf); first | exact trivial | (with_reducible rfl) | exact (rfl : (0 : Int) = ((0 : Nat) : Int)) | exact w64_nat arith | refine bcase_T (by first | with_reducible rfl | decide) ?_ | refine bcase_F (by first | with_reducible rfl | decide) ?_ | refine bcase_dec (fun _ => ?_) (fun _ => ?_) | refine bcase_not ?_ | refine bcase_intro (fun _ => ?_) (fun _ => ?_) | refine ⟨(by with_reducible rfl), ?_⟩ | refine ⟨congrArg vi ?_, ?_⟩ | refine ⟨congrArg vb ?_, ?_⟩ | refine ⟨rfl, ?_⟩ | refine ⟨(by kernel_rfl : drawOK _ = true), ?_⟩ | refine Or.inl ?_ | refine ⟨⟨congrArg (T.int _) ?_, rfl⟩, ?_⟩ | refine ⟨⟨congrArg T.bool ?_, rfl⟩, ?_⟩ | refine ⟨⟨rfl, Nat.le_of_ble_eq_true rfl⟩, ?_⟩ | refine ⟨⟨rfl, rfl⟩, ?_⟩ | refine ⟨⟨rfl, (by decide)⟩, ?_⟩ | refine ⟨⟨rfl, ?_⟩, ?_⟩ | refine ⟨Or.inr rfl, ?_⟩ | refine ⟨Or.inl rfl, ?_⟩ | refine ⟨⟨⟨rfl, rfl, rfl⟩, ?_⟩, ?_⟩ | refine ⟨_, _, rfl, row_get _ _ arith, rfl, ?_⟩ | refine ⟨Or.inr (by repeat (first | exact trivial | refine ⟨rfl, ?_⟩)), ?_⟩ | refine ⟨(?_ : _ = ([] : List (List T))), ?_⟩ | refine ⟨_, c_sIsValidDevice (w.Devices[i]'(by omega)) (h.2.1.2 _ (List.getElem_mem _)), ?_⟩ | refine ⟨i, _, rfl, row_get _ _ (by omega), rfl, ?_⟩ | refine ⟨i ^^^ 1, _, hxr i (by omega), row_get _ _ (hxl i (by omega)), rfl, ?_⟩ | refine ⟨i + 1, ⟨⟨arith, ?_⟩, arith⟩, sub_at [(0, 1)] rfl rfl rfl ?_ ?_⟩ | fail))
  all_goals first
    | (rw [hm]; done)
    | (have h0 : i < w.Devices.length := (by omega); have h8 := hxr i h0; have h9 := hxl i h0; rw [hi.2, allN_T h0 (by rw [devIn_eq _ h0 h9]; first | (simp_all; done) | (simp_all; omega) | grind)]; done)
    | (have h0 : i < w.Devices.length := (by omega); have h8 := hxr i h0; have h9 := hxl i h0; unfold devsIn; rw [hi.2, allN_F h0 (by rw [devIn_eq _ h0 h9]; first | (simp_all; done) | (simp_all; omega) | grind)]; rfl)
    | (unfold devsIn; rw [hi.2, allN_end (by omega), he]; rfl)
    | skip
theorem c_sIsValidWorld (w : DWorld) (h : bigW w) : FnAt Tryz.prog 55 [.agg (DWorld.e w)] [.one (.s (.bool (worldOk w)))] := by
  refine fn_of Tryz.func55 rfl (by kernel_rfl) rfl ?_
  all_goals repeat' (first | (with_reducible rfl) | ((conv => whnf); first | exact trivial | (with_reducible rfl) | exact (rfl : (0 : Int) = ((0 : Nat) : Int)) | exact w64_nat arith | refine bcase_T (by first | with_reducible rfl | decide) ?_ | refine bcase_F (by first | with_reducible rfl | decide) ?_ | refine bcase_dec (fun _ => ?_) (fun _ => ?_) | refine bcase_not ?_ | refine bcase_intro (fun _ => ?_) (fun _ => ?_) | refine ⟨(by with_reducible rfl), ?_⟩ | refine ⟨congrArg vi ?_, ?_⟩ | refine ⟨congrArg vb ?_, ?_⟩ | refine ⟨rfl, ?_⟩ | refine ⟨(by kernel_rfl : drawOK _ = true), ?_⟩ | refine Or.inl ?_ | refine ⟨⟨congrArg (T.int _) ?_, rfl⟩, ?_⟩ | refine ⟨⟨congrArg T.bool ?_, rfl⟩, ?_⟩ | refine ⟨⟨rfl, Nat.le_of_ble_eq_true rfl⟩, ?_⟩ | refine ⟨⟨rfl, rfl⟩, ?_⟩ | refine ⟨⟨rfl, (by decide)⟩, ?_⟩ | refine ⟨⟨rfl, ?_⟩, ?_⟩ | refine ⟨Or.inr rfl, ?_⟩ | refine ⟨Or.inl rfl, ?_⟩ | refine ⟨⟨⟨rfl, rfl, rfl⟩, ?_⟩, ?_⟩ | refine ⟨_, _, rfl, row_get _ _ arith, rfl, ?_⟩ | refine ⟨Or.inr (by repeat (first | exact trivial | refine ⟨rfl, ?_⟩)), ?_⟩ | refine ⟨(?_ : _ = ([] : List (List T))), ?_⟩ | refine ⟨_, c_l1In _ _ _, ?_⟩ | refine ⟨_, c_l32Servers w h, ?_⟩ | refine ⟨_, c_l32Devices w h, ?_⟩ | refine ⟨_, c_sIsValidArchive w.Archive h.2.2.1, ?_⟩ | refine ⟨_, c_sLastRound w.Archive h.2.2.1.1, ?_⟩ | refine ⟨_, c_sIsValidKey _, ?_⟩ | fail))
  all_goals first
    | (simp_all [worldOk, worldHd, servsIn, devsIn]; done)
    | (unfold worldOk worldHd; simp_all [servsIn, devsIn]; omega)
    | (unfold worldOk worldHd; simp_all [servsIn, devsIn]; grind)
theorem c_IsValidWorld (w : DWorld) (h : bigW w) : FnAt Tryz.prog 7 [.agg (DWorld.e w)] [.one (.s (.bool (worldOk w)))] := by
  have hx := h.1.1
  have hx2 := h.2.1.1
  have hm := lenm DServer.e w.Servers
  have hm2 := lenm DDevice.e w.Devices
  have hrem := rem2 w.Devices.length
  by_cases hw : worldHd w = true
  case neg =>
    have e : worldOk w = false := by unfold worldOk; rw [eq_false_of_ne_true hw, Bool.and_false]
    rw [e]
    refine fn_of Tryz.func7 rfl (by kernel_rfl) rfl ?_
    all_goals repeat' (first | (with_reducible rfl) | ((conv => whnf); first | exact trivial | (with_reducible rfl) | exact (rfl : (0 : Int) = ((0 : Nat) : Int)) | exact w64_nat arith | refine bcase_T (by first | with_reducible rfl | decide) ?_ | refine bcase_F (by first | with_reducible rfl | decide) ?_ | refine bcase_dec (fun _ => ?_) (fun _ => ?_) | refine bcase_not ?_ | refine bcase_intro (fun _ => ?_) (fun _ => ?_) | refine ⟨(by with_reducible rfl), ?_⟩ | refine ⟨congrArg vi ?_, ?_⟩ | refine ⟨congrArg vb ?_, ?_⟩ | refine ⟨rfl, ?_⟩ | refine ⟨(by kernel_rfl : drawOK _ = true), ?_⟩ | refine Or.inl ?_ | refine ⟨⟨congrArg (T.int _) ?_, rfl⟩, ?_⟩ | refine ⟨⟨congrArg T.bool ?_, rfl⟩, ?_⟩ | refine ⟨⟨rfl, Nat.le_of_ble_eq_true rfl⟩, ?_⟩ | refine ⟨⟨rfl, rfl⟩, ?_⟩ | refine ⟨⟨rfl, (by decide)⟩, ?_⟩ | refine ⟨⟨rfl, ?_⟩, ?_⟩ | refine ⟨Or.inr rfl, ?_⟩ | refine ⟨Or.inl rfl, ?_⟩ | refine ⟨⟨⟨rfl, rfl, rfl⟩, ?_⟩, ?_⟩ | refine ⟨_, _, rfl, row_get _ _ arith, rfl, ?_⟩ | refine ⟨Or.inr (by repeat (first | exact trivial | refine ⟨rfl, ?_⟩)), ?_⟩ | refine ⟨(?_ : _ = ([] : List (List T))), ?_⟩ | refine ⟨_, c_InRange _ _ _, ?_⟩ | refine ⟨_, c_isServerCount _, ?_⟩ | refine ⟨_, c_IsValidArchive w.Archive h.2.2.1, ?_⟩ | refine ⟨_, c_LastRound w.Archive h.2.2.1.1, ?_⟩ | refine ⟨_, c_IsValidKey _, ?_⟩ | refine ⟨(by decide : (2 : Int) ≠ 0), ?_⟩ | fail))
    all_goals first
      | rfl
      | (exfalso; apply hw; unfold worldHd evenIn; rw [hm, hm2] at *; simp_all; done)
      | (exfalso; apply hw; unfold worldHd evenIn; rw [hm, hm2] at *; simp_all; omega)
      | skip
  have hw' := hw
  simp only [worldHd, evenIn, Bool.and_eq_true, decide_eq_true_eq] at hw'
  obtain ⟨⟨⟨⟨⟨⟨⟨⟨h1, h2⟩, h3, h4⟩, h5⟩, h6⟩, h7⟩, h8⟩, h9⟩, h10⟩ := hw'
  have hr4 := inR_iff.1 h4
  have hp := hrem.2 h3
  have hxl : ∀ i, i < w.Devices.length → i ^^^ 1 < w.Devices.length := xor1_lt _ (by omega) h3
  have hxr : ∀ i : Nat, i < w.Devices.length → bits .xor .i64 (i : Int) 1 = ((i ^^^ 1 : Nat) : Int) := fun i hi => xor1_run (by omega)
  refine fn_of Tryz.func7 rfl (by kernel_rfl) rfl ?_
  all_goals repeat' (first | (with_reducible rfl) | ((conv => whnf); first | refine ⟨_, c_InRange _ _ _, ?_⟩ | refine ⟨_, c_isServerCount _, ?_⟩ | refine ⟨_, c_IsValidArchive w.Archive h.2.2.1, ?_⟩ | refine ⟨_, c_LastRound w.Archive h.2.2.1.1, ?_⟩ | refine ⟨_, c_IsValidKey _, ?_⟩ | refine ⟨(by decide : (2 : Int) ≠ 0), ?_⟩ | refine bcase_F (by rw [hm]; simp only [h2, Bool.not_true]; done) ?_ | refine bcase_F (by rw [hm2]; simp only [h4, Bool.not_true]; done) ?_ | refine bcase_F (by rw [hm2]; exact bne_eq_false_iff_eq.2 hp) ?_ | refine bcase_F (by rw [h1]; rfl) ?_ | refine bcase_F (by rw [h5]; rfl) ?_ | refine bcase_F (bne_eq_false_iff_eq.2 h6) ?_ | refine bcase_F (by rw [decide_eq_false_iff_not]; omega) ?_ | refine bcase_F (by rw [h8]; rfl) ?_ | refine bcase_F (by rw [h9]; rfl) ?_ | exact trivial | (with_reducible rfl) | exact (rfl : (0 : Int) = ((0 : Nat) : Int)) | exact w64_nat arith | refine bcase_T (by first | with_reducible rfl | decide) ?_ | refine bcase_F (by first | with_reducible rfl | decide) ?_ | refine bcase_dec (fun _ => ?_) (fun _ => ?_) | refine bcase_not ?_ | refine bcase_intro (fun _ => ?_) (fun _ => ?_) | refine ⟨(by with_reducible rfl), ?_⟩ | refine ⟨congrArg vi ?_, ?_⟩ | refine ⟨congrArg vb ?_, ?_⟩ | refine ⟨rfl, ?_⟩ | refine ⟨(by kernel_rfl : drawOK _ = true), ?_⟩ | refine Or.inl ?_ | refine ⟨⟨congrArg (T.int _) ?_, rfl⟩, ?_⟩ | refine ⟨⟨congrArg T.bool ?_, rfl⟩, ?_⟩ | refine ⟨⟨rfl, Nat.le_of_ble_eq_true rfl⟩, ?_⟩ | refine ⟨⟨rfl, rfl⟩, ?_⟩ | refine ⟨⟨rfl, (by decide)⟩, ?_⟩ | refine ⟨⟨rfl, ?_⟩, ?_⟩ | refine ⟨Or.inr rfl, ?_⟩ | refine ⟨Or.inl rfl, ?_⟩ | refine ⟨⟨⟨rfl, rfl, rfl⟩, ?_⟩, ?_⟩ | refine ⟨_, _, rfl, row_get _ _ arith, rfl, ?_⟩ | refine ⟨Or.inr (by repeat (first | exact trivial | refine ⟨rfl, ?_⟩)), ?_⟩ | refine ⟨(?_ : _ = ([] : List (List T))), ?_⟩ | fail))
  conv => whnf
  refine ⟨Nat, fun i => i ≤ w.Servers.length ∧ allN (servIn w) w.Servers.length 0 = allN (servIn w) (w.Servers.length - i) i, fun i => ⟨[(1, .ptr 0 0), (73, vl (w.Servers.map DServer.e)), (74, vi w.Servers.length), (75, vi i)], [(0, .box ((DWorld.e w).map .t))], 1⟩, fun i => w.Servers.length - i, 0, ⟨Nat.zero_le _, rfl⟩, sub_at [(0, 1)] rfl rfl rfl ?_ ?_, fun i hi => ?_⟩
  all_goals repeat' (first | (with_reducible rfl) | ((conv => whnf); first | exact trivial | (with_reducible rfl) | exact (rfl : (0 : Int) = ((0 : Nat) : Int)) | exact w64_nat arith | refine bcase_T (by first | with_reducible rfl | decide) ?_ | refine bcase_F (by first | with_reducible rfl | decide) ?_ | refine bcase_dec (fun _ => ?_) (fun _ => ?_) | refine bcase_not ?_ | refine bcase_intro (fun _ => ?_) (fun _ => ?_) | refine ⟨(by with_reducible rfl), ?_⟩ | refine ⟨congrArg vi ?_, ?_⟩ | refine ⟨congrArg vb ?_, ?_⟩ | refine ⟨rfl, ?_⟩ | refine ⟨(by kernel_rfl : drawOK _ = true), ?_⟩ | refine Or.inl ?_ | refine ⟨⟨congrArg (T.int _) ?_, rfl⟩, ?_⟩ | refine ⟨⟨congrArg T.bool ?_, rfl⟩, ?_⟩ | refine ⟨⟨rfl, Nat.le_of_ble_eq_true rfl⟩, ?_⟩ | refine ⟨⟨rfl, rfl⟩, ?_⟩ | refine ⟨⟨rfl, (by decide)⟩, ?_⟩ | refine ⟨⟨rfl, ?_⟩, ?_⟩ | refine ⟨Or.inr rfl, ?_⟩ | refine ⟨Or.inl rfl, ?_⟩ | refine ⟨⟨⟨rfl, rfl, rfl⟩, ?_⟩, ?_⟩ | refine ⟨_, _, rfl, row_get _ _ arith, rfl, ?_⟩ | refine ⟨Or.inr (by repeat (first | exact trivial | refine ⟨rfl, ?_⟩)), ?_⟩ | refine ⟨(?_ : _ = ([] : List (List T))), ?_⟩ | refine ⟨_, c_IsValidServer (w.Servers[i]'(by omega)) (h.1.2 _ (List.getElem_mem _)), ?_⟩ | refine ⟨i, _, rfl, row_get _ _ (by omega), rfl, ?_⟩ | refine ⟨i + 1, ⟨⟨arith, ?_⟩, arith⟩, sub_at [(0, 1)] rfl rfl rfl ?_ ?_⟩ | fail))
  all_goals first
    | (rw [hm]; done)
    | (have h0 : i < w.Servers.length := (by omega); rw [hi.2, allN_T h0 (by rw [servIn_eq _ h0]; have hq := lenm DReceivedShare.e w.Servers[i].Received; first | (simp_all; done) | (simp_all; omega) | grind)]; done)
    | (have h0 : i < w.Servers.length := (by omega); unfold worldOk; rw [hi.2, allN_F h0 (by rw [servIn_eq _ h0]; have hq := lenm DReceivedShare.e w.Servers[i].Received; first | (simp_all; done) | (simp_all; omega) | grind)]; rfl)
    | skip
  conv => whnf
  have hs : allN (servIn w) w.Servers.length 0 = true := by rw [hi.2, allN_end (by omega)]
  refine ⟨Nat, fun j => j ≤ w.Devices.length ∧ allN (devIn w) w.Devices.length 0 = allN (devIn w) (w.Devices.length - j) j, fun j => ⟨[(1, .ptr 0 0), (111, vl (w.Devices.map DDevice.e)), (112, vi w.Devices.length), (113, vi j)], [(0, .box ((DWorld.e w).map .t))], 1⟩, fun j => w.Devices.length - j, 0, ⟨Nat.zero_le _, rfl⟩, sub_at [(0, 1)] rfl rfl rfl ?_ ?_, fun j hj => ?_⟩
  all_goals repeat' (first | (with_reducible rfl) | ((conv => whnf); first | exact trivial | (with_reducible rfl) | exact (rfl : (0 : Int) = ((0 : Nat) : Int)) | exact w64_nat arith | refine bcase_T (by first | with_reducible rfl | decide) ?_ | refine bcase_F (by first | with_reducible rfl | decide) ?_ | refine bcase_dec (fun _ => ?_) (fun _ => ?_) | refine bcase_not ?_ | refine bcase_intro (fun _ => ?_) (fun _ => ?_) | refine ⟨(by with_reducible rfl), ?_⟩ | refine ⟨congrArg vi ?_, ?_⟩ | refine ⟨congrArg vb ?_, ?_⟩ | refine ⟨rfl, ?_⟩ | refine ⟨(by kernel_rfl : drawOK _ = true), ?_⟩ | refine Or.inl ?_ | refine ⟨⟨congrArg (T.int _) ?_, rfl⟩, ?_⟩ | refine ⟨⟨congrArg T.bool ?_, rfl⟩, ?_⟩ | refine ⟨⟨rfl, Nat.le_of_ble_eq_true rfl⟩, ?_⟩ | refine ⟨⟨rfl, rfl⟩, ?_⟩ | refine ⟨⟨rfl, (by decide)⟩, ?_⟩ | refine ⟨⟨rfl, ?_⟩, ?_⟩ | refine ⟨Or.inr rfl, ?_⟩ | refine ⟨Or.inl rfl, ?_⟩ | refine ⟨⟨⟨rfl, rfl, rfl⟩, ?_⟩, ?_⟩ | refine ⟨_, _, rfl, row_get _ _ arith, rfl, ?_⟩ | refine ⟨Or.inr (by repeat (first | exact trivial | refine ⟨rfl, ?_⟩)), ?_⟩ | refine ⟨(?_ : _ = ([] : List (List T))), ?_⟩ | refine ⟨_, c_IsValidDevice (w.Devices[j]'(by omega)) (h.2.1.2 _ (List.getElem_mem _)), ?_⟩ | refine ⟨j, _, rfl, row_get _ _ (by omega), rfl, ?_⟩ | refine ⟨j ^^^ 1, _, hxr j (by omega), row_get _ _ (hxl j (by omega)), rfl, ?_⟩ | refine ⟨j + 1, ⟨⟨arith, ?_⟩, arith⟩, sub_at [(0, 1)] rfl rfl rfl ?_ ?_⟩ | fail))
  all_goals first
    | (rw [hm2]; done)
    | (have h0 : j < w.Devices.length := (by omega); have h18 := hxr j h0; have h19 := hxl j h0; rw [hj.2, allN_T h0 (by rw [devIn_eq _ h0 h19]; first | (simp_all; done) | (simp_all; omega) | grind)]; done)
    | (have h0 : j < w.Devices.length := (by omega); have h18 := hxr j h0; have h19 := hxl j h0; unfold worldOk; rw [hj.2, allN_F h0 (by rw [devIn_eq _ h0 h19]; simp_all <;> omega), Bool.and_false]; rfl)
    | (unfold worldOk; rw [hs, hj.2, allN_end (by omega), hw]; rfl)
    | skip
end Go.Proofs.YteecgbgdmfjogaaGreat
