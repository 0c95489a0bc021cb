/-
  Contracts: the shares of a write of a world's client.
  Conditions: none.
-/
import Derived.Test.YtdbgmncapignoaaGreatFnMw
import Derived.Test.YtdbgmncapignoaaGreatFnWs
import Derived.Test.YtdbgmncapignoaaGreatFnWo
namespace Go.Proofs.YtdbgmncapignoaaGreat
set_option maxHeartbeats 4000000
set_option maxRecDepth 20000
open Go.Vm Go.RowKit
attribute [local irreducible] FnAt MutAt InAt JAt CurAt

attribute [local irreducible] worldOk wLast wDb mwOk writeRow writeCell wSeeds xorDb writes
def hasC (w : DWorld) (c : Int) : Bool := inR c 0 ((w.Devices.length : Int) - 1)
def sharesOf (w : DWorld) (c : Int) (d : DDevice) : List DDatabase := makeW w.Rows (writeRow d.Live w.Round w.Rows) (writeCell d.Live w.Round w.Rows) (wSeeds w c)
def sharesW (w : DWorld) (c : Int) : List DDatabase := if worldOk w && hasC w c then (match w.Devices[c.toNat]? with
  | some d => sharesOf w c d
  | none => []) else []
theorem shares_none (w : DWorld) (c : Int) (d : DDevice) (h : writes d.Live w.Round w.Rows = false) : sharesOf w c d = [] := by
  have e : writeCell d.Live w.Round w.Rows = [] := by unfold writeCell; rw [h]; rfl
  unfold sharesOf makeW
  rw [if_neg]
  rw [e]
  unfold mwOk
  rw [unitOk_eq]
  simp
theorem devlen {n : Nat} (h : n ≤ 1099511627776) : IntKind.i64.wrap ((n : Int) - 1) = (n : Int) - 1 := w64_ok (by omega) (by omega)
attribute [local irreducible] makeW
theorem c_hasC (w : DWorld) (c : Int) (h : w.Devices.length ≤ 1099511627776) : FnAt Tryz.prog 50 [.agg (DWorld.e w), .one (I c)] [.one (.s (.bool (hasC w c)))] := by
  have hm := lenm DDevice.e w.Devices
  have hw := devlen h
  refine fn_of Tryz.func50 rfl (by kernel_rfl) rfl ?_
  all_goals repeat' (first
    | (with_reducible rfl)
    | (conv => whnf
       first
         | exact trivial
         | (with_reducible rfl)
         | exact (rfl : (0 : Int) = ((0 : Nat) : Int))
         | exact w64_nat arith
         | refine bcase_T (by first | with_reducible rfl | decide) ?_
         | refine bcase_F (by first | with_reducible rfl | decide) ?_
         | refine bcase_dec (fun _ => ?_) (fun _ => ?_)
         | refine bcase_not ?_
         | refine bcase_intro (fun _ => ?_) (fun _ => ?_)
         | refine ⟨(by with_reducible rfl), ?_⟩
         | refine ⟨congrArg vi ?_, ?_⟩
         | refine ⟨congrArg vb ?_, ?_⟩
         | refine ⟨rfl, ?_⟩
         | refine ⟨(by kernel_rfl : drawOK _ = true), ?_⟩
         | refine Or.inl ?_
         | refine ⟨⟨congrArg (T.int _) ?_, rfl⟩, ?_⟩
         | refine ⟨⟨congrArg T.bool ?_, rfl⟩, ?_⟩
         | refine ⟨⟨rfl, Nat.le_of_ble_eq_true rfl⟩, ?_⟩
         | refine ⟨⟨rfl, rfl⟩, ?_⟩
         | refine ⟨⟨rfl, (by decide)⟩, ?_⟩
         | refine ⟨⟨rfl, ?_⟩, ?_⟩
         | refine ⟨Or.inr rfl, ?_⟩
         | refine ⟨Or.inl rfl, ?_⟩
         | refine ⟨⟨⟨rfl, rfl, rfl⟩, ?_⟩, ?_⟩
         | refine ⟨_, _, rfl, row_get _ _ arith, rfl, ?_⟩
         | refine ⟨Or.inr (by repeat (first | exact trivial | refine ⟨rfl, ?_⟩)), ?_⟩
         | refine ⟨(?_ : _ = ([] : List (List T))), ?_⟩
         | refine ⟨_, fn_args (c_InRange c 0 ((w.Devices.length : Int) - 1)) (by rw [hm, hw]; rfl), ?_⟩
         | fail))
  all_goals rfl
theorem c_WriteShares (w : DWorld) (c : Int) (h : bigW w) : FnAt Tryz.prog 16 [.agg (DWorld.e w), .one (I c)] [.one (.l 1 ((sharesW w c).map DDatabase.e))] := by
  have hs : (wSeeds w c).length ≤ 1099511627776 := by rw [wSeeds_len]; have := h.1.1; omega
  cases h1 : worldOk w with
  | false =>
    have e : sharesW w c = [] := by unfold sharesW; rw [h1]; rfl
    rw [e]
    refine fn_of Tryz.func16 rfl (by kernel_rfl) rfl ?_
    all_goals repeat' (first
      | (with_reducible rfl)
      | (conv => whnf
         first
           | refine ⟨_, c_IsValidWorld w h, ?_⟩
           | refine bcase_T (by rw [h1]; rfl) ?_
           | exact trivial
           | (with_reducible rfl)
           | exact (rfl : (0 : Int) = ((0 : Nat) : Int))
           | exact w64_nat arith
           | refine bcase_T (by first | with_reducible rfl | decide) ?_
           | refine bcase_F (by first | with_reducible rfl | decide) ?_
           | refine bcase_dec (fun _ => ?_) (fun _ => ?_)
           | refine bcase_not ?_
           | refine bcase_intro (fun _ => ?_) (fun _ => ?_)
           | refine ⟨(by with_reducible rfl), ?_⟩
           | refine ⟨congrArg vi ?_, ?_⟩
           | refine ⟨congrArg vb ?_, ?_⟩
           | refine ⟨rfl, ?_⟩
           | refine ⟨(by kernel_rfl : drawOK _ = true), ?_⟩
           | refine Or.inl ?_
           | refine ⟨⟨congrArg (T.int _) ?_, rfl⟩, ?_⟩
           | refine ⟨⟨congrArg T.bool ?_, rfl⟩, ?_⟩
           | refine ⟨⟨rfl, Nat.le_of_ble_eq_true rfl⟩, ?_⟩
           | refine ⟨⟨rfl, rfl⟩, ?_⟩
           | refine ⟨⟨rfl, (by decide)⟩, ?_⟩
           | refine ⟨⟨rfl, ?_⟩, ?_⟩
           | refine ⟨Or.inr rfl, ?_⟩
           | refine ⟨Or.inl rfl, ?_⟩
           | refine ⟨⟨⟨rfl, rfl, rfl⟩, ?_⟩, ?_⟩
           | refine ⟨_, _, rfl, row_get _ _ arith, rfl, ?_⟩
           | refine ⟨Or.inr (by repeat (first | exact trivial | refine ⟨rfl, ?_⟩)), ?_⟩
           | refine ⟨(?_ : _ = ([] : List (List T))), ?_⟩
           | fail))
    all_goals rfl
  | true =>
  cases h2 : hasC w c with
  | false =>
    have e : sharesW w c = [] := by unfold sharesW; rw [h1, h2]; rfl
    rw [e]
    refine fn_of Tryz.func16 rfl (by kernel_rfl) rfl ?_
    all_goals repeat' (first
      | (with_reducible rfl)
      | (conv => whnf
         first
           | refine ⟨_, c_IsValidWorld w h, ?_⟩
           | refine ⟨_, c_hasC w c h.2.1.1, ?_⟩
           | refine bcase_F (by rw [h1]; rfl) ?_
           | refine bcase_T (by rw [h2]; rfl) ?_
           | exact trivial
           | (with_reducible rfl)
           | exact (rfl : (0 : Int) = ((0 : Nat) : Int))
           | exact w64_nat arith
           | refine bcase_T (by first | with_reducible rfl | decide) ?_
           | refine bcase_F (by first | with_reducible rfl | decide) ?_
           | refine bcase_dec (fun _ => ?_) (fun _ => ?_)
           | refine bcase_not ?_
           | refine bcase_intro (fun _ => ?_) (fun _ => ?_)
           | refine ⟨(by with_reducible rfl), ?_⟩
           | refine ⟨congrArg vi ?_, ?_⟩
           | refine ⟨congrArg vb ?_, ?_⟩
           | refine ⟨rfl, ?_⟩
           | refine ⟨(by kernel_rfl : drawOK _ = true), ?_⟩
           | refine Or.inl ?_
           | refine ⟨⟨congrArg (T.int _) ?_, rfl⟩, ?_⟩
           | refine ⟨⟨congrArg T.bool ?_, rfl⟩, ?_⟩
           | refine ⟨⟨rfl, Nat.le_of_ble_eq_true rfl⟩, ?_⟩
           | refine ⟨⟨rfl, rfl⟩, ?_⟩
           | refine ⟨⟨rfl, (by decide)⟩, ?_⟩
           | refine ⟨⟨rfl, ?_⟩, ?_⟩
           | refine ⟨Or.inr rfl, ?_⟩
           | refine ⟨Or.inl rfl, ?_⟩
           | refine ⟨⟨⟨rfl, rfl, rfl⟩, ?_⟩, ?_⟩
           | refine ⟨_, _, rfl, row_get _ _ arith, rfl, ?_⟩
           | refine ⟨Or.inr (by repeat (first | exact trivial | refine ⟨rfl, ?_⟩)), ?_⟩
           | refine ⟨(?_ : _ = ([] : List (List T))), ?_⟩
           | fail))
    all_goals rfl
  | true =>
  have h3 := inR_iff.1 h2
  obtain ⟨c, rfl⟩ := Int.eq_ofNat_of_zero_le h3.1
  have hc : c < w.Devices.length := by omega
  have e : sharesW w c = sharesOf w c w.Devices[c] := by unfold sharesW; rw [h1, h2]; simp only [Int.toNat_natCast, List.getElem?_eq_getElem hc]; rfl
  rw [e]
  cases h4 : writes w.Devices[c].Live w.Round w.Rows with
  | false =>
    rw [shares_none w c _ h4]
    refine fn_of Tryz.func16 rfl (by kernel_rfl) rfl ?_
    all_goals repeat' (first
      | (with_reducible rfl)
      | (conv => whnf
         first
           | refine ⟨_, c_IsValidWorld w h, ?_⟩
           | refine ⟨_, c_hasC w c h.2.1.1, ?_⟩
           | refine bcase_F (by rw [h1]; rfl) ?_
           | refine bcase_F (by rw [h2]; rfl) ?_
           | refine ⟨c, _, rfl, row_get _ _ hc, rfl, ?_⟩
           | refine ⟨_, c_ClientWrite w.Devices[c].Live w.Round w.Rows (h.2.1.2 _ (List.getElem_mem hc)).1, ?_⟩
           | refine bcase_T (by rw [h4]; rfl) ?_
           | exact trivial
           | (with_reducible rfl)
           | exact (rfl : (0 : Int) = ((0 : Nat) : Int))
           | exact w64_nat arith
           | refine bcase_T (by first | with_reducible rfl | decide) ?_
           | refine bcase_F (by first | with_reducible rfl | decide) ?_
           | refine bcase_dec (fun _ => ?_) (fun _ => ?_)
           | refine bcase_not ?_
           | refine bcase_intro (fun _ => ?_) (fun _ => ?_)
           | refine ⟨(by with_reducible rfl), ?_⟩
           | refine ⟨congrArg vi ?_, ?_⟩
           | refine ⟨congrArg vb ?_, ?_⟩
           | refine ⟨rfl, ?_⟩
           | refine ⟨(by kernel_rfl : drawOK _ = true), ?_⟩
           | refine Or.inl ?_
           | refine ⟨⟨congrArg (T.int _) ?_, rfl⟩, ?_⟩
           | refine ⟨⟨congrArg T.bool ?_, rfl⟩, ?_⟩
           | refine ⟨⟨rfl, Nat.le_of_ble_eq_true rfl⟩, ?_⟩
           | refine ⟨⟨rfl, rfl⟩, ?_⟩
           | refine ⟨⟨rfl, (by decide)⟩, ?_⟩
           | refine ⟨⟨rfl, ?_⟩, ?_⟩
           | refine ⟨Or.inr rfl, ?_⟩
           | refine ⟨Or.inl rfl, ?_⟩
           | refine ⟨⟨⟨rfl, rfl, rfl⟩, ?_⟩, ?_⟩
           | refine ⟨_, _, rfl, row_get _ _ arith, rfl, ?_⟩
           | refine ⟨Or.inr (by repeat (first | exact trivial | refine ⟨rfl, ?_⟩)), ?_⟩
           | refine ⟨(?_ : _ = ([] : List (List T))), ?_⟩
           | fail))
    all_goals rfl
  | true =>
    refine fn_of Tryz.func16 rfl (by kernel_rfl) rfl ?_
    all_goals repeat' (first
      | (with_reducible rfl)
      | (conv => whnf
         first
           | refine ⟨_, c_IsValidWorld w h, ?_⟩
           | refine ⟨_, c_hasC w c h.2.1.1, ?_⟩
           | refine bcase_F (by rw [h1]; rfl) ?_
           | refine bcase_F (by rw [h2]; rfl) ?_
           | refine ⟨c, _, rfl, row_get _ _ hc, rfl, ?_⟩
           | refine ⟨_, c_ClientWrite w.Devices[c].Live w.Round w.Rows (h.2.1.2 _ (List.getElem_mem hc)).1, ?_⟩
           | refine bcase_F (by rw [h4]; rfl) ?_
           | refine ⟨_, c_WriteSeeds w c h.1.1, ?_⟩
           | refine ⟨_, c_MakeWrite w.Rows (writeRow w.Devices[c].Live w.Round w.Rows) (writeCell w.Devices[c].Live w.Round w.Rows) (wSeeds w c) (by have := writeCell_len w.Devices[c].Live w.Round w.Rows; omega) hs, ?_⟩
           | exact trivial
           | (with_reducible rfl)
           | exact (rfl : (0 : Int) = ((0 : Nat) : Int))
           | exact w64_nat arith
           | refine bcase_T (by first | with_reducible rfl | decide) ?_
           | refine bcase_F (by first | with_reducible rfl | decide) ?_
           | refine bcase_dec (fun _ => ?_) (fun _ => ?_)
           | refine bcase_not ?_
           | refine bcase_intro (fun _ => ?_) (fun _ => ?_)
           | refine ⟨(by with_reducible rfl), ?_⟩
           | refine ⟨congrArg vi ?_, ?_⟩
           | refine ⟨congrArg vb ?_, ?_⟩
           | refine ⟨rfl, ?_⟩
           | refine ⟨(by kernel_rfl : drawOK _ = true), ?_⟩
           | refine Or.inl ?_
           | refine ⟨⟨congrArg (T.int _) ?_, rfl⟩, ?_⟩
           | refine ⟨⟨congrArg T.bool ?_, rfl⟩, ?_⟩
           | refine ⟨⟨rfl, Nat.le_of_ble_eq_true rfl⟩, ?_⟩
           | refine ⟨⟨rfl, rfl⟩, ?_⟩
           | refine ⟨⟨rfl, (by decide)⟩, ?_⟩
           | refine ⟨⟨rfl, ?_⟩, ?_⟩
           | refine ⟨Or.inr rfl, ?_⟩
           | refine ⟨Or.inl rfl, ?_⟩
           | refine ⟨⟨⟨rfl, rfl, rfl⟩, ?_⟩, ?_⟩
           | refine ⟨_, _, rfl, row_get _ _ arith, rfl, ?_⟩
           | refine ⟨Or.inr (by repeat (first | exact trivial | refine ⟨rfl, ?_⟩)), ?_⟩
           | refine ⟨(?_ : _ = ([] : List (List T))), ?_⟩
           | fail))
    all_goals rfl
theorem c_l33Shares (w : DWorld) (c : Nat) (h : bigW w) (hn0 : okI w.Rows) (hc : c < w.Devices.length) : FnAt Tryz.prog 49 [.agg (DWorld.e w), .one (I c)] [.one (.l 1 ((sharesOf w c w.Devices[c]).map DDatabase.e))] := by
  have hs : (wSeeds w c).length ≤ 1099511627776 := by rw [wSeeds_len]; have := h.1.1; omega
  refine fn_of Tryz.func49 rfl (by kernel_rfl) rfl ?_
  all_goals repeat' (first
    | (with_reducible rfl)
    | (conv => whnf
       first
         | refine ⟨c, _, rfl, row_get _ _ hc, rfl, ?_⟩
         | refine ⟨_, c_sClientWrite w.Devices[c].Live w.Round w.Rows (h.2.1.2 _ (List.getElem_mem hc)).1, ?_⟩
         | refine ⟨_, c_sWriteSeeds w c h.1.1, ?_⟩
         | refine ⟨_, c_sMakeWrite w.Rows (writeRow w.Devices[c].Live w.Round w.Rows) (writeCell w.Devices[c].Live w.Round w.Rows) (wSeeds w c) hn0 (by have := writeCell_len w.Devices[c].Live w.Round w.Rows; omega) hs, ?_⟩
         | exact trivial
         | (with_reducible rfl)
         | exact (rfl : (0 : Int) = ((0 : Nat) : Int))
         | exact w64_nat arith
         | refine bcase_T (by first | with_reducible rfl | decide) ?_
         | refine bcase_F (by first | with_reducible rfl | decide) ?_
         | refine bcase_dec (fun _ => ?_) (fun _ => ?_)
         | refine bcase_not ?_
         | refine bcase_intro (fun _ => ?_) (fun _ => ?_)
         | refine ⟨(by with_reducible rfl), ?_⟩
         | refine ⟨congrArg vi ?_, ?_⟩
         | refine ⟨congrArg vb ?_, ?_⟩
         | refine ⟨rfl, ?_⟩
         | refine ⟨(by kernel_rfl : drawOK _ = true), ?_⟩
         | refine Or.inl ?_
         | refine ⟨⟨congrArg (T.int _) ?_, rfl⟩, ?_⟩
         | refine ⟨⟨congrArg T.bool ?_, rfl⟩, ?_⟩
         | refine ⟨⟨rfl, Nat.le_of_ble_eq_true rfl⟩, ?_⟩
         | refine ⟨⟨rfl, rfl⟩, ?_⟩
         | refine ⟨⟨rfl, (by decide)⟩, ?_⟩
         | refine ⟨⟨rfl, ?_⟩, ?_⟩
         | refine ⟨Or.inr rfl, ?_⟩
         | refine ⟨Or.inl rfl, ?_⟩
         | refine ⟨⟨⟨rfl, rfl, rfl⟩, ?_⟩, ?_⟩
         | refine ⟨_, _, rfl, row_get _ _ arith, rfl, ?_⟩
         | refine ⟨Or.inr (by repeat (first | exact trivial | refine ⟨rfl, ?_⟩)), ?_⟩
         | refine ⟨(?_ : _ = ([] : List (List T))), ?_⟩
         | fail))
  all_goals rfl
theorem c_sWriteShares (w : DWorld) (c : Int) (h : bigW w) (hn0 : okI w.Rows) : FnAt Tryz.prog 15 [.agg (DWorld.e w), .one (I c)] [.one (.l 1 ((sharesW w c).map DDatabase.e))] := by
  have hm := lenm DDevice.e w.Devices
  have hw := devlen h.2.1.1
  cases h1 : worldOk w with
  | false =>
    have e : sharesW w c = [] := by unfold sharesW; rw [h1]; rfl
    rw [e]
    refine fn_of Tryz.func15 rfl (by kernel_rfl) rfl ?_
    all_goals repeat' (first
      | (with_reducible rfl)
      | (conv => whnf
         first
           | refine ⟨_, c_sIsValidWorld w h, ?_⟩
           | refine bcase_T (by rw [h1]; rfl) ?_
           | exact trivial
           | (with_reducible rfl)
           | exact (rfl : (0 : Int) = ((0 : Nat) : Int))
           | exact w64_nat arith
           | refine bcase_T (by first | with_reducible rfl | decide) ?_
           | refine bcase_F (by first | with_reducible rfl | decide) ?_
           | refine bcase_dec (fun _ => ?_) (fun _ => ?_)
           | refine bcase_not ?_
           | refine bcase_intro (fun _ => ?_) (fun _ => ?_)
           | refine ⟨(by with_reducible rfl), ?_⟩
           | refine ⟨congrArg vi ?_, ?_⟩
           | refine ⟨congrArg vb ?_, ?_⟩
           | refine ⟨rfl, ?_⟩
           | refine ⟨(by kernel_rfl : drawOK _ = true), ?_⟩
           | refine Or.inl ?_
           | refine ⟨⟨congrArg (T.int _) ?_, rfl⟩, ?_⟩
           | refine ⟨⟨congrArg T.bool ?_, rfl⟩, ?_⟩
           | refine ⟨⟨rfl, Nat.le_of_ble_eq_true rfl⟩, ?_⟩
           | refine ⟨⟨rfl, rfl⟩, ?_⟩
           | refine ⟨⟨rfl, (by decide)⟩, ?_⟩
           | refine ⟨⟨rfl, ?_⟩, ?_⟩
           | refine ⟨Or.inr rfl, ?_⟩
           | refine ⟨Or.inl rfl, ?_⟩
           | refine ⟨⟨⟨rfl, rfl, rfl⟩, ?_⟩, ?_⟩
           | refine ⟨_, _, rfl, row_get _ _ arith, rfl, ?_⟩
           | refine ⟨Or.inr (by repeat (first | exact trivial | refine ⟨rfl, ?_⟩)), ?_⟩
           | refine ⟨(?_ : _ = ([] : List (List T))), ?_⟩
           | fail))
    all_goals rfl
  | true =>
  cases h2 : hasC w c with
  | false =>
    have e : sharesW w c = [] := by unfold sharesW; rw [h1, h2]; rfl
    have h2' : inR c 0 ((w.Devices.length : Int) - 1) = false := h2
    rw [e]
    refine fn_of Tryz.func15 rfl (by kernel_rfl) rfl ?_
    all_goals repeat' (first
      | (with_reducible rfl)
      | (conv => whnf
         first
           | refine ⟨_, c_sIsValidWorld w h, ?_⟩
           | refine ⟨_, fn_args (c_l1In c 0 ((w.Devices.length : Int) - 1)) (by rw [hm, hw]; rfl), ?_⟩
           | refine bcase_F (by rw [h1]; rfl) ?_
           | refine bcase_T (by rw [h2']; rfl) ?_
           | exact trivial
           | (with_reducible rfl)
           | exact (rfl : (0 : Int) = ((0 : Nat) : Int))
           | exact w64_nat arith
           | refine bcase_T (by first | with_reducible rfl | decide) ?_
           | refine bcase_F (by first | with_reducible rfl | decide) ?_
           | refine bcase_dec (fun _ => ?_) (fun _ => ?_)
           | refine bcase_not ?_
           | refine bcase_intro (fun _ => ?_) (fun _ => ?_)
           | refine ⟨(by with_reducible rfl), ?_⟩
           | refine ⟨congrArg vi ?_, ?_⟩
           | refine ⟨congrArg vb ?_, ?_⟩
           | refine ⟨rfl, ?_⟩
           | refine ⟨(by kernel_rfl : drawOK _ = true), ?_⟩
           | refine Or.inl ?_
           | refine ⟨⟨congrArg (T.int _) ?_, rfl⟩, ?_⟩
           | refine ⟨⟨congrArg T.bool ?_, rfl⟩, ?_⟩
           | refine ⟨⟨rfl, Nat.le_of_ble_eq_true rfl⟩, ?_⟩
           | refine ⟨⟨rfl, rfl⟩, ?_⟩
           | refine ⟨⟨rfl, (by decide)⟩, ?_⟩
           | refine ⟨⟨rfl, ?_⟩, ?_⟩
           | refine ⟨Or.inr rfl, ?_⟩
           | refine ⟨Or.inl rfl, ?_⟩
           | refine ⟨⟨⟨rfl, rfl, rfl⟩, ?_⟩, ?_⟩
           | refine ⟨_, _, rfl, row_get _ _ arith, rfl, ?_⟩
           | refine ⟨Or.inr (by repeat (first | exact trivial | refine ⟨rfl, ?_⟩)), ?_⟩
           | refine ⟨(?_ : _ = ([] : List (List T))), ?_⟩
           | fail))
    all_goals rfl
  | true =>
  have h3 := inR_iff.1 h2
  have h2' : inR c 0 ((w.Devices.length : Int) - 1) = true := h2
  obtain ⟨c, rfl⟩ := Int.eq_ofNat_of_zero_le h3.1
  have hc : c < w.Devices.length := by omega
  have e : sharesW w c = sharesOf w c w.Devices[c] := by unfold sharesW; rw [h1, h2]; simp only [Int.toNat_natCast, List.getElem?_eq_getElem hc]; rfl
  rw [e]
  refine fn_of Tryz.func15 rfl (by kernel_rfl) rfl ?_
  all_goals repeat' (first
    | (with_reducible rfl)
    | (conv => whnf
       first
         | refine ⟨_, c_sIsValidWorld w h, ?_⟩
         | refine ⟨_, fn_args (c_l1In c 0 ((w.Devices.length : Int) - 1)) (by rw [hm, hw]; rfl), ?_⟩
         | refine bcase_F (by rw [h1]; rfl) ?_
         | refine bcase_F (by rw [h2']; rfl) ?_
         | refine ⟨_, c_l33Shares w c h hn0 hc, ?_⟩
         | exact trivial
         | (with_reducible rfl)
         | exact (rfl : (0 : Int) = ((0 : Nat) : Int))
         | exact w64_nat arith
         | refine bcase_T (by first | with_reducible rfl | decide) ?_
         | refine bcase_F (by first | with_reducible rfl | decide) ?_
         | refine bcase_dec (fun _ => ?_) (fun _ => ?_)
         | refine bcase_not ?_
         | refine bcase_intro (fun _ => ?_) (fun _ => ?_)
         | refine ⟨(by with_reducible rfl), ?_⟩
         | refine ⟨congrArg vi ?_, ?_⟩
         | refine ⟨congrArg vb ?_, ?_⟩
         | refine ⟨rfl, ?_⟩
         | refine ⟨(by kernel_rfl : drawOK _ = true), ?_⟩
         | refine Or.inl ?_
         | refine ⟨⟨congrArg (T.int _) ?_, rfl⟩, ?_⟩
         | refine ⟨⟨congrArg T.bool ?_, rfl⟩, ?_⟩
         | refine ⟨⟨rfl, Nat.le_of_ble_eq_true rfl⟩, ?_⟩
         | refine ⟨⟨rfl, rfl⟩, ?_⟩
         | refine ⟨⟨rfl, (by decide)⟩, ?_⟩
         | refine ⟨⟨rfl, ?_⟩, ?_⟩
         | refine ⟨Or.inr rfl, ?_⟩
         | refine ⟨Or.inl rfl, ?_⟩
         | refine ⟨⟨⟨rfl, rfl, rfl⟩, ?_⟩, ?_⟩
         | refine ⟨_, _, rfl, row_get _ _ arith, rfl, ?_⟩
         | refine ⟨Or.inr (by repeat (first | exact trivial | refine ⟨rfl, ?_⟩)), ?_⟩
         | refine ⟨(?_ : _ = ([] : List (List T))), ?_⟩
         | fail))
  all_goals rfl
end Go.Proofs.YtdbgmncapignoaaGreat
