/-
  Contracts: the close of a round.
  Conditions: none.
-/
import Derived.Test.YtcoipmjboiegoaaGreatFnCl
namespace Go.Proofs.YtcoipmjboiegoaaGreat
set_option maxHeartbeats 4000000
set_option maxRecDepth 20000
open Go.Vm Go.RowKit
attribute [local irreducible] FnAt MutAt InAt JAt CurAt

def Hold (p : Prop) : Prop := p
theorem hold {p : Prop} (h : Hold p) : p := h
theorem hold' {p : Prop} (h : p) : Hold p := h
attribute [local irreducible] Hold worldOk newServer addRound addOk servOk beginS freshS guiltyS guiltyR
theorem c_CloseRound_x (w : DWorld) (g : List Int) (d : DDatabase) (h : bigW w) (h8 : w.Devices.length ≤ 1048576) (hok : closeOk w = false) : FnAt Tryz.prog 24 [.agg (DWorld.e w), .one (L eI g), .agg (DDatabase.e d)] [.agg (DWorld.rw (closeW w g d))] := by
  have e2 : closeW w g d = w := by unfold closeW; rw [hok]; rfl
  rw [e2]
  cases h1 : worldOk w with
  | false =>
    refine fn_of Tryz.func24 rfl (by kernel_rfl) rfl ?_
    all_goals repeat' (first
      | (with_reducible rfl)
      | (conv => whnf
         first
           | refine ⟨_, c_copyWorld w h h8, ?_⟩
           | refine ⟨_, c_IsValidWorld w h, ?_⟩
           | refine bcase_T (by rw [h1]; rfl) ?_
           | exact trivial
           | (with_reducible rfl)
           | exact (rfl : (0 : Int) = ((0 : Nat) : Int))
           | exact w64_nat arith
           | refine bcase_T (by first | with_reducible rfl | decide) ?_
           | refine bcase_F (by first | with_reducible rfl | decide) ?_
           | refine bcase_dec (fun _ => ?_) (fun _ => ?_)
           | refine bcase_not ?_
           | refine bcase_intro (fun _ => ?_) (fun _ => ?_)
           | refine ⟨(by with_reducible rfl), ?_⟩
           | refine ⟨congrArg vi ?_, ?_⟩
           | refine ⟨congrArg vb ?_, ?_⟩
           | refine ⟨rfl, ?_⟩
           | refine ⟨(by kernel_rfl : drawOK _ = true), ?_⟩
           | refine Or.inl ?_
           | refine ⟨⟨congrArg (T.int _) ?_, rfl⟩, ?_⟩
           | refine ⟨⟨congrArg T.bool ?_, rfl⟩, ?_⟩
           | refine ⟨⟨rfl, Nat.le_of_ble_eq_true rfl⟩, ?_⟩
           | refine ⟨⟨rfl, rfl⟩, ?_⟩
           | refine ⟨⟨rfl, (by decide)⟩, ?_⟩
           | refine ⟨⟨rfl, ?_⟩, ?_⟩
           | refine ⟨Or.inr rfl, ?_⟩
           | refine ⟨Or.inl rfl, ?_⟩
           | refine ⟨⟨⟨rfl, rfl, rfl⟩, ?_⟩, ?_⟩
           | refine ⟨_, _, rfl, row_get _ _ arith, rfl, ?_⟩
           | refine ⟨Or.inr (by repeat (first | exact trivial | refine ⟨rfl, ?_⟩)), ?_⟩
           | refine ⟨(?_ : _ = ([] : List (List T))), ?_⟩
           | fail))
    all_goals rfl
  | true =>
    have h2 : ¬ (w.Round < 99999) := by intro hh; unfold closeOk at hok; rw [h1] at hok; simp at hok; omega
    refine fn_of Tryz.func24 rfl (by kernel_rfl) rfl ?_
    all_goals repeat' (first
      | (with_reducible rfl)
      | (conv => whnf
         first
           | refine ⟨_, c_copyWorld w h h8, ?_⟩
           | refine ⟨_, c_IsValidWorld w h, ?_⟩
           | refine bcase_F (by rw [h1]; rfl) ?_
           | refine bcase_T (by rw [h1]; rfl) ?_
           | refine bcase_T (by rw [decide_eq_true_eq]; omega) ?_
           | exact trivial
           | (with_reducible rfl)
           | exact (rfl : (0 : Int) = ((0 : Nat) : Int))
           | exact w64_nat arith
           | refine bcase_T (by first | with_reducible rfl | decide) ?_
           | refine bcase_F (by first | with_reducible rfl | decide) ?_
           | refine bcase_dec (fun _ => ?_) (fun _ => ?_)
           | refine bcase_not ?_
           | refine bcase_intro (fun _ => ?_) (fun _ => ?_)
           | refine ⟨(by with_reducible rfl), ?_⟩
           | refine ⟨congrArg vi ?_, ?_⟩
           | refine ⟨congrArg vb ?_, ?_⟩
           | refine ⟨rfl, ?_⟩
           | refine ⟨(by kernel_rfl : drawOK _ = true), ?_⟩
           | refine Or.inl ?_
           | refine ⟨⟨congrArg (T.int _) ?_, rfl⟩, ?_⟩
           | refine ⟨⟨congrArg T.bool ?_, rfl⟩, ?_⟩
           | refine ⟨⟨rfl, Nat.le_of_ble_eq_true rfl⟩, ?_⟩
           | refine ⟨⟨rfl, rfl⟩, ?_⟩
           | refine ⟨⟨rfl, (by decide)⟩, ?_⟩
           | refine ⟨⟨rfl, ?_⟩, ?_⟩
           | refine ⟨Or.inr rfl, ?_⟩
           | refine ⟨Or.inl rfl, ?_⟩
           | refine ⟨⟨⟨rfl, rfl, rfl⟩, ?_⟩, ?_⟩
           | refine ⟨_, _, rfl, row_get _ _ arith, rfl, ?_⟩
           | refine ⟨Or.inr (by repeat (first | exact trivial | refine ⟨rfl, ?_⟩)), ?_⟩
           | refine ⟨(?_ : _ = ([] : List (List T))), ?_⟩
           | fail))
    all_goals rfl
theorem c_CloseRound_g (w : DWorld) (g : List Int) (d : DDatabase) (h : bigW w) (h8 : w.Devices.length ≤ 1048576) (ha : w.Archive.Rounds.length ≤ 1048576) (hg : g.length ≤ 1048576) (hr : w.Replaced.length ≤ 1048576) (hd : bigB d.Rows) (hok : closeOk w = true) (hne : g ≠ []) : FnAt Tryz.prog 24 [.agg (DWorld.e w), .one (L eI g), .agg (DDatabase.e d)] [.agg (DWorld.rw (closeW w g d))] := by
  have hk := hok
  simp only [closeOk, Bool.and_eq_true, decide_eq_true_eq] at hk
  obtain ⟨h1, h2⟩ := hk
  have hS := h.1.1
  have hA := h.2.2.1
  have hrd := worldOk_round h1
  have hlg := fun g => guiltyS_len w g
  have hw : IntKind.i64.wrap ((w.Servers.length : Int) - 1) = (w.Servers.length : Int) - 1 := w64_ok (by omega) (by omega)
  have hg0 : 0 < g.length := by cases g with | nil => exact absurd rfl hne | cons x g => simp
  have eA : closeA w g d = w.Archive := by cases g with | nil => exact absurd rfl hne | cons x g => rfl
  have eC : closeC w g = IntKind.i64.wrap (w.Cancelled + 1) := by cases g with | nil => exact absurd rfl hne | cons x g => rfl
  have eW : closeW w g d = ⟨w.Rows, (guiltyS w g).map beginS, w.Devices, w.Archive, w.Master, w.Seed, IntKind.i64.wrap (w.Round + 1), guiltyR w g, IntKind.i64.wrap (w.Cancelled + 1)⟩ := by unfold closeW; rw [hok, if_pos rfl]; rw [eA, eC]
  rw [eW]
  refine fn_of Tryz.func24 rfl (by kernel_rfl) rfl ?_
  all_goals repeat' (first
    | (with_reducible rfl)
    | (conv => whnf
       first
         | refine ⟨_, c_copyWorld w h h8, ?_⟩
         | refine ⟨_, c_IsValidWorld w h, ?_⟩
         | refine bcase_F (by rw [h1]; rfl) ?_
         | refine bcase_T (by rw [h1]; rfl) ?_
         | refine bcase_F (by rw [decide_eq_false_iff_not]; omega) ?_
         | refine bcase_F (by rw [beq_eq_false_iff_ne, List.length_map]; omega) ?_
         | exact trivial
         | (with_reducible rfl)
         | exact (rfl : (0 : Int) = ((0 : Nat) : Int))
         | exact w64_nat arith
         | refine bcase_T (by first | with_reducible rfl | decide) ?_
         | refine bcase_F (by first | with_reducible rfl | decide) ?_
         | refine bcase_dec (fun _ => ?_) (fun _ => ?_)
         | refine bcase_not ?_
         | refine bcase_intro (fun _ => ?_) (fun _ => ?_)
         | refine ⟨(by with_reducible rfl), ?_⟩
         | refine ⟨congrArg vi ?_, ?_⟩
         | refine ⟨congrArg vb ?_, ?_⟩
         | refine ⟨rfl, ?_⟩
         | refine ⟨(by kernel_rfl : drawOK _ = true), ?_⟩
         | refine Or.inl ?_
         | refine ⟨⟨congrArg (T.int _) ?_, rfl⟩, ?_⟩
         | refine ⟨⟨congrArg T.bool ?_, rfl⟩, ?_⟩
         | refine ⟨⟨rfl, Nat.le_of_ble_eq_true rfl⟩, ?_⟩
         | refine ⟨⟨rfl, rfl⟩, ?_⟩
         | refine ⟨⟨rfl, (by decide)⟩, ?_⟩
         | refine ⟨⟨rfl, ?_⟩, ?_⟩
         | refine ⟨Or.inr rfl, ?_⟩
         | refine ⟨Or.inl rfl, ?_⟩
         | refine ⟨⟨⟨rfl, rfl, rfl⟩, ?_⟩, ?_⟩
         | refine ⟨_, _, rfl, row_get _ _ arith, rfl, ?_⟩
         | refine ⟨Or.inr (by repeat (first | exact trivial | refine ⟨rfl, ?_⟩)), ?_⟩
         | refine ⟨(?_ : _ = ([] : List (List T))), ?_⟩
         | fail))
  conv => whnf
  refine ⟨Nat, fun i => i ≤ g.length, fun i => ⟨[(6, .ptr 0 0), (7, .ptr 1 0), (40, vl (g.map eI)), (41, vi g.length), (42, vi i)], [(0, .box [.t (I 0), .nil, .nil, .t (I 0), .nil, .t (I 0), .t (I 0), .t (I 0), .nil, .t (I 0)]), (1, .box [.t (I w.Rows), .ref 2, .ref 3, .t (I w.Archive.Rows), .ref 4, .t (I w.Master), .t (I w.Seed), .t (I w.Round), .ref 5, .t (I (IntKind.i64.wrap (w.Cancelled + 1)))]), (2, .row true true 5 ((guiltyS w (g.take i)).map DServer.e)), (3, .row true true 16 (w.Devices.map DDevice.e)), (4, .row true true 2 (w.Archive.Rounds.map DArchivedRound.e)), (5, .row true true 1 ((guiltyR w (g.take i)).map eI))], 6⟩, fun i => g.length - i, 0, Nat.zero_le _, sub_at2 [(0, 6, 0), (1, 7, 0), (2, 7, 2), (3, 7, 3), (4, 7, 5), (5, 7, 9)] rfl rfl rfl ?_ ?_, fun i (hi : i ≤ g.length) => ?_⟩
  all_goals repeat' (first
    | (with_reducible rfl)
    | (conv => whnf
       first
         | (refine Or.inr ⟨rfl, Or.inr (Or.inr ?_)⟩; (conv => whnf); refine jat_ Tryz.func86 rfl (by kernel_rfl) (by rfl) (by rfl) ?_)
         | refine ⟨_, fn_args (c_InRange (g[i]'arith) 0 ((w.Servers.length : Int) - 1)) (by rw [List.length_map, guiltyS_len, hw]; rfl), ?_⟩
         | refine ⟨_, c_NewServer (g[i]'arith) w.Rows 0, ?_⟩
         | refine ⟨i, _, rfl, row_get _ _ arith, rfl, ?_⟩
         | refine ⟨(g[i]'arith).toNat, tonat (by assumption), guilty_idx w _ (by assumption), ?_⟩
         | refine ⟨_, guilty_row w _ (by assumption), ⟨rfl, Nat.le_of_ble_eq_true rfl⟩, ?_⟩
         | (have hrl := guiltyR_le w g i; refine ⟨true, fun _ => (by simp [isScal]), ⟨rfl, rfl⟩, ⟨bnd, bnd⟩, ?_⟩)
         | (have hrl := guiltyR_le w g i; refine ⟨⟨bnd, bnd⟩, ?_⟩)
         | refine ⟨i + 1, ⟨arith, arith⟩, sub_at2 [(0, 6, 0), (1, 7, 0), (2, 7, 2), (3, 7, 3), (4, 7, 5), (5, 7, 9)] rfl rfl rfl ?_ ?_⟩
         | exact trivial
         | (with_reducible rfl)
         | exact (rfl : (0 : Int) = ((0 : Nat) : Int))
         | exact w64_nat arith
         | refine bcase_T (by first | with_reducible rfl | decide) ?_
         | refine bcase_F (by first | with_reducible rfl | decide) ?_
         | refine bcase_dec (fun _ => ?_) (fun _ => ?_)
         | refine bcase_not ?_
         | refine bcase_intro (fun _ => ?_) (fun _ => ?_)
         | refine ⟨(by with_reducible rfl), ?_⟩
         | refine ⟨congrArg vi ?_, ?_⟩
         | refine ⟨congrArg vb ?_, ?_⟩
         | refine ⟨rfl, ?_⟩
         | refine ⟨(by kernel_rfl : drawOK _ = true), ?_⟩
         | refine Or.inl ?_
         | refine ⟨⟨congrArg (T.int _) ?_, rfl⟩, ?_⟩
         | refine ⟨⟨congrArg T.bool ?_, rfl⟩, ?_⟩
         | refine ⟨⟨rfl, Nat.le_of_ble_eq_true rfl⟩, ?_⟩
         | refine ⟨⟨rfl, rfl⟩, ?_⟩
         | refine ⟨⟨rfl, (by decide)⟩, ?_⟩
         | refine ⟨⟨rfl, ?_⟩, ?_⟩
         | refine ⟨Or.inr rfl, ?_⟩
         | refine ⟨Or.inl rfl, ?_⟩
         | refine ⟨⟨⟨rfl, rfl, rfl⟩, ?_⟩, ?_⟩
         | refine ⟨_, _, rfl, row_get _ _ arith, rfl, ?_⟩
         | refine ⟨Or.inr (by repeat (first | exact trivial | refine ⟨rfl, ?_⟩)), ?_⟩
         | refine ⟨(?_ : _ = ([] : List (List T))), ?_⟩
         | fail))
  all_goals first
    | (rw [List.length_map]; done)
    | rfl
    | (rw [guiltyS_nil]; done)
    | (rw [guiltyR_nil]; done)
    | exact repl_T' w g arith (by assumption) (by assumption)
    | exact repl_T2 w g arith (by assumption)
    | exact repl_F w g arith (by assumption)
    | exact replR_T w g arith (by assumption)
    | exact replR_F w g arith (by assumption)
    | skip
  conv => whnf
  refine ⟨Nat, fun j => j ≤ w.Servers.length, fun j => ⟨[(6, .ptr 0 0), (7, .ptr 1 0), (50, .c (.ref 2)), (51, vi w.Servers.length), (52, vi j)], [(0, .box [.t (I 0), .nil, .nil, .t (I 0), .nil, .t (I 0), .t (I 0), .t (I 0), .nil, .t (I 0)]), (1, .box [.t (I w.Rows), .ref 2, .ref 3, .t (I w.Archive.Rows), .ref 4, .t (I w.Master), .t (I w.Seed), .t (I w.Round), .ref 5, .t (I (IntKind.i64.wrap (w.Cancelled + 1)))]), (2, .row true true 5 ((((guiltyS w g).take j).map beginS ++ (guiltyS w g).drop j).map DServer.e)), (3, .row true true 16 (w.Devices.map DDevice.e)), (4, .row true true 2 (w.Archive.Rounds.map DArchivedRound.e)), (5, .row true true 1 ((guiltyR w g).map eI))], 6⟩, fun j => w.Servers.length - j, 0, Nat.zero_le _, sub_at2 [(0, 6, 0), (1, 7, 0), (2, 7, 2), (3, 7, 3), (4, 7, 5), (5, 7, 9)] rfl rfl rfl ?_ ?_, fun j (hj : j ≤ w.Servers.length) => ?_⟩
  all_goals repeat' (first
    | (with_reducible rfl)
    | (conv => whnf
       first
         | refine ⟨_, c_BeginRound ((guiltyS w g)[j]'(by first | (rw [guiltyS_len]; omega) | exact beg_lt (by assumption))) (guiltyS_big w _ h.1 _ (List.getElem_mem _)), ?_⟩
         | refine ⟨j, rfl, (by first | (rw [beg_len, guiltyS_len]; omega) | omega), ?_⟩
         | refine ⟨_, beg_row (guiltyS w g) (by first | (rw [guiltyS_len]; omega) | exact beg_lt (by assumption)), ⟨rfl, Nat.le_of_ble_eq_true rfl⟩, ?_⟩
         | refine ⟨_, beg_row (guiltyS w g) (by first | (rw [guiltyS_len]; omega) | exact beg_lt (by assumption)), ?_⟩
         | refine ⟨j + 1, ⟨arith, arith⟩, sub_at2 [(0, 6, 0), (1, 7, 0), (2, 7, 2), (3, 7, 3), (4, 7, 5), (5, 7, 9)] rfl rfl rfl ?_ ?_⟩
         | exact trivial
         | (with_reducible rfl)
         | exact (rfl : (0 : Int) = ((0 : Nat) : Int))
         | exact w64_nat arith
         | refine bcase_T (by first | with_reducible rfl | decide) ?_
         | refine bcase_F (by first | with_reducible rfl | decide) ?_
         | refine bcase_dec (fun _ => ?_) (fun _ => ?_)
         | refine bcase_not ?_
         | refine bcase_intro (fun _ => ?_) (fun _ => ?_)
         | refine ⟨(by with_reducible rfl), ?_⟩
         | refine ⟨congrArg vi ?_, ?_⟩
         | refine ⟨congrArg vb ?_, ?_⟩
         | refine ⟨rfl, ?_⟩
         | refine ⟨(by kernel_rfl : drawOK _ = true), ?_⟩
         | refine Or.inl ?_
         | refine ⟨⟨congrArg (T.int _) ?_, rfl⟩, ?_⟩
         | refine ⟨⟨congrArg T.bool ?_, rfl⟩, ?_⟩
         | refine ⟨⟨rfl, Nat.le_of_ble_eq_true rfl⟩, ?_⟩
         | refine ⟨⟨rfl, rfl⟩, ?_⟩
         | refine ⟨⟨rfl, (by decide)⟩, ?_⟩
         | refine ⟨⟨rfl, ?_⟩, ?_⟩
         | refine ⟨Or.inr rfl, ?_⟩
         | refine ⟨Or.inl rfl, ?_⟩
         | refine ⟨⟨⟨rfl, rfl, rfl⟩, ?_⟩, ?_⟩
         | refine ⟨_, _, rfl, row_get _ _ arith, rfl, ?_⟩
         | refine ⟨Or.inr (by repeat (first | exact trivial | refine ⟨rfl, ?_⟩)), ?_⟩
         | refine ⟨(?_ : _ = ([] : List (List T))), ?_⟩
         | fail))
  all_goals first
    | (rw [List.length_map, guiltyS_len]; done)
    | (rw [take_all g arith]; done)
    | (rw [take_all g arith]; exact beg_0 _)
    | exact beg_0 _
    | (rw [List.take_nil]; done)
    | (rw [List.take_nil]; exact beg_0 _)
    | exact beg_set (guiltyS w g) (by first | (rw [guiltyS_len]; omega) | exact beg_lt (by assumption))
    | exact beg_end (guiltyS w g) (by first | (rw [guiltyS_len]; omega) | exact beg_ge (by assumption))
    | rfl
    | skip
theorem c_CloseRound_n (w : DWorld) (d : DDatabase) (h : bigW w) (h8 : w.Devices.length ≤ 1048576) (ha : w.Archive.Rounds.length ≤ 1048576) (hr : w.Replaced.length ≤ 1048576) (hd : bigB d.Rows) (hok : closeOk w = true) (hno : addOk w.Archive w.Round d = false) : FnAt Tryz.prog 24 [.agg (DWorld.e w), .one (L eI []), .agg (DDatabase.e d)] [.agg (DWorld.rw (closeW w [] d))] := by
  have hk := hok
  simp only [closeOk, Bool.and_eq_true, decide_eq_true_eq] at hk
  obtain ⟨h1, h2⟩ := hk
  have hS := h.1.1
  have hA := h.2.2.1
  have hrd := worldOk_round h1
  have hlg := fun g => guiltyS_len w g
  have hw : IntKind.i64.wrap ((w.Servers.length : Int) - 1) = (w.Servers.length : Int) - 1 := w64_ok (by omega) (by omega)
  have eN : closeA w [] d = w.Archive := by show addRound w.Archive w.Round d = w.Archive; unfold addRound; rw [hno]; rfl
  have eW : closeW w [] d = ⟨w.Rows, (guiltyS w []).map beginS, w.Devices, w.Archive, w.Master, w.Seed, IntKind.i64.wrap (w.Round + 1), guiltyR w [], w.Cancelled⟩ := by unfold closeW; rw [hok, if_pos rfl]; rw [eN]; rfl
  rw [eW]
  refine fn_of Tryz.func24 rfl (by kernel_rfl) rfl ?_
  all_goals repeat' (first
    | (with_reducible rfl)
    | (conv => whnf
       first
         | refine ⟨_, c_copyWorld w h h8, ?_⟩
         | refine ⟨_, c_IsValidWorld w h, ?_⟩
         | refine bcase_F (by rw [h1]; rfl) ?_
         | refine bcase_T (by rw [h1]; rfl) ?_
         | refine bcase_F (by rw [decide_eq_false_iff_not]; omega) ?_
         | refine bcase_T (by rfl) ?_
         | refine ⟨_, c_AddRound_no w.Archive w.Round d hA ha hd hno, ?_⟩
         | exact trivial
         | (with_reducible rfl)
         | exact (rfl : (0 : Int) = ((0 : Nat) : Int))
         | exact w64_nat arith
         | refine bcase_T (by first | with_reducible rfl | decide) ?_
         | refine bcase_F (by first | with_reducible rfl | decide) ?_
         | refine bcase_dec (fun _ => ?_) (fun _ => ?_)
         | refine bcase_not ?_
         | refine bcase_intro (fun _ => ?_) (fun _ => ?_)
         | refine ⟨(by with_reducible rfl), ?_⟩
         | refine ⟨congrArg vi ?_, ?_⟩
         | refine ⟨congrArg vb ?_, ?_⟩
         | refine ⟨rfl, ?_⟩
         | refine ⟨(by kernel_rfl : drawOK _ = true), ?_⟩
         | refine Or.inl ?_
         | refine ⟨⟨congrArg (T.int _) ?_, rfl⟩, ?_⟩
         | refine ⟨⟨congrArg T.bool ?_, rfl⟩, ?_⟩
         | refine ⟨⟨rfl, Nat.le_of_ble_eq_true rfl⟩, ?_⟩
         | refine ⟨⟨rfl, rfl⟩, ?_⟩
         | refine ⟨⟨rfl, (by decide)⟩, ?_⟩
         | refine ⟨⟨rfl, ?_⟩, ?_⟩
         | refine ⟨Or.inr rfl, ?_⟩
         | refine ⟨Or.inl rfl, ?_⟩
         | refine ⟨⟨⟨rfl, rfl, rfl⟩, ?_⟩, ?_⟩
         | refine ⟨_, _, rfl, row_get _ _ arith, rfl, ?_⟩
         | refine ⟨Or.inr (by repeat (first | exact trivial | refine ⟨rfl, ?_⟩)), ?_⟩
         | refine ⟨(?_ : _ = ([] : List (List T))), ?_⟩
         | fail))
  conv => whnf
  refine ⟨Nat, fun i => i ≤ 0, fun i => ⟨[(6, .ptr 0 0), (7, .ptr 1 0), (40, vl (([] : List Int).map eI)), (41, vi 0), (42, vi i)], [(0, .box [.t (I 0), .nil, .nil, .t (I 0), .nil, .t (I 0), .t (I 0), .t (I 0), .nil, .t (I 0)]), (1, .box [.t (I w.Rows), .ref 2, .ref 3, .t (I w.Archive.Rows), .ref 4, .t (I w.Master), .t (I w.Seed), .t (I w.Round), .ref 5, .t (I (w.Cancelled))]), (2, .row true true 5 ((guiltyS w (([] : List Int).take i)).map DServer.e)), (3, .row true true 16 (w.Devices.map DDevice.e)), (4, .row true true 2 (w.Archive.Rounds.map DArchivedRound.e)), (5, .row true true 1 ((guiltyR w (([] : List Int).take i)).map eI))], 6⟩, fun i => 0 - i, 0, Nat.zero_le _, sub_at2 [(0, 6, 0), (1, 7, 0), (2, 7, 2), (3, 7, 3), (4, 7, 5), (5, 7, 9)] rfl rfl rfl ?_ ?_, fun i (hi : i ≤ 0) => ?_⟩
  all_goals repeat' (first
    | (with_reducible rfl)
    | (conv => whnf
       first
         | refine bcase_F (by rw [decide_eq_false_iff_not]; (try simp only [List.map_nil, List.length_nil]); omega) ?_
         | exact trivial
         | (with_reducible rfl)
         | exact (rfl : (0 : Int) = ((0 : Nat) : Int))
         | exact w64_nat arith
         | refine bcase_T (by first | with_reducible rfl | decide) ?_
         | refine bcase_F (by first | with_reducible rfl | decide) ?_
         | refine bcase_dec (fun _ => ?_) (fun _ => ?_)
         | refine bcase_not ?_
         | refine bcase_intro (fun _ => ?_) (fun _ => ?_)
         | refine ⟨(by with_reducible rfl), ?_⟩
         | refine ⟨congrArg vi ?_, ?_⟩
         | refine ⟨congrArg vb ?_, ?_⟩
         | refine ⟨rfl, ?_⟩
         | refine ⟨(by kernel_rfl : drawOK _ = true), ?_⟩
         | refine Or.inl ?_
         | refine ⟨⟨congrArg (T.int _) ?_, rfl⟩, ?_⟩
         | refine ⟨⟨congrArg T.bool ?_, rfl⟩, ?_⟩
         | refine ⟨⟨rfl, Nat.le_of_ble_eq_true rfl⟩, ?_⟩
         | refine ⟨⟨rfl, rfl⟩, ?_⟩
         | refine ⟨⟨rfl, (by decide)⟩, ?_⟩
         | refine ⟨⟨rfl, ?_⟩, ?_⟩
         | refine ⟨Or.inr rfl, ?_⟩
         | refine ⟨Or.inl rfl, ?_⟩
         | refine ⟨⟨⟨rfl, rfl, rfl⟩, ?_⟩, ?_⟩
         | refine ⟨_, _, rfl, row_get _ _ arith, rfl, ?_⟩
         | refine ⟨Or.inr (by repeat (first | exact trivial | refine ⟨rfl, ?_⟩)), ?_⟩
         | refine ⟨(?_ : _ = ([] : List (List T))), ?_⟩
         | fail))
  all_goals first
    | (rw [List.length_map]; done)
    | rfl
    | (rw [guiltyS_nil]; done)
    | (rw [guiltyR_nil]; done)
    | exact repl_T' w g arith (by assumption) (by assumption)
    | exact repl_T2 w g arith (by assumption)
    | exact repl_F w g arith (by assumption)
    | exact replR_T w g arith (by assumption)
    | exact replR_F w g arith (by assumption)
    | skip
  conv => whnf
  refine ⟨Nat, fun j => j ≤ w.Servers.length, fun j => ⟨[(6, .ptr 0 0), (7, .ptr 1 0), (50, .c (.ref 2)), (51, vi w.Servers.length), (52, vi j)], [(0, .box [.t (I 0), .nil, .nil, .t (I 0), .nil, .t (I 0), .t (I 0), .t (I 0), .nil, .t (I 0)]), (1, .box [.t (I w.Rows), .ref 2, .ref 3, .t (I w.Archive.Rows), .ref 4, .t (I w.Master), .t (I w.Seed), .t (I w.Round), .ref 5, .t (I (w.Cancelled))]), (2, .row true true 5 ((((guiltyS w ([] : List Int)).take j).map beginS ++ (guiltyS w ([] : List Int)).drop j).map DServer.e)), (3, .row true true 16 (w.Devices.map DDevice.e)), (4, .row true true 2 (w.Archive.Rounds.map DArchivedRound.e)), (5, .row true true 1 ((guiltyR w ([] : List Int)).map eI))], 6⟩, fun j => w.Servers.length - j, 0, Nat.zero_le _, sub_at2 [(0, 6, 0), (1, 7, 0), (2, 7, 2), (3, 7, 3), (4, 7, 5), (5, 7, 9)] rfl rfl rfl ?_ ?_, fun j (hj : j ≤ w.Servers.length) => ?_⟩
  all_goals repeat' (first
    | (with_reducible rfl)
    | (conv => whnf
       first
         | refine ⟨_, c_BeginRound ((guiltyS w ([] : List Int))[j]'(by first | (rw [guiltyS_len]; omega) | exact beg_lt (by assumption))) (guiltyS_big w _ h.1 _ (List.getElem_mem _)), ?_⟩
         | refine ⟨j, rfl, (by first | (rw [beg_len, guiltyS_len]; omega) | omega), ?_⟩
         | refine ⟨_, beg_row (guiltyS w ([] : List Int)) (by first | (rw [guiltyS_len]; omega) | exact beg_lt (by assumption)), ⟨rfl, Nat.le_of_ble_eq_true rfl⟩, ?_⟩
         | refine ⟨_, beg_row (guiltyS w ([] : List Int)) (by first | (rw [guiltyS_len]; omega) | exact beg_lt (by assumption)), ?_⟩
         | refine ⟨j + 1, ⟨arith, arith⟩, sub_at2 [(0, 6, 0), (1, 7, 0), (2, 7, 2), (3, 7, 3), (4, 7, 5), (5, 7, 9)] rfl rfl rfl ?_ ?_⟩
         | exact trivial
         | (with_reducible rfl)
         | exact (rfl : (0 : Int) = ((0 : Nat) : Int))
         | exact w64_nat arith
         | refine bcase_T (by first | with_reducible rfl | decide) ?_
         | refine bcase_F (by first | with_reducible rfl | decide) ?_
         | refine bcase_dec (fun _ => ?_) (fun _ => ?_)
         | refine bcase_not ?_
         | refine bcase_intro (fun _ => ?_) (fun _ => ?_)
         | refine ⟨(by with_reducible rfl), ?_⟩
         | refine ⟨congrArg vi ?_, ?_⟩
         | refine ⟨congrArg vb ?_, ?_⟩
         | refine ⟨rfl, ?_⟩
         | refine ⟨(by kernel_rfl : drawOK _ = true), ?_⟩
         | refine Or.inl ?_
         | refine ⟨⟨congrArg (T.int _) ?_, rfl⟩, ?_⟩
         | refine ⟨⟨congrArg T.bool ?_, rfl⟩, ?_⟩
         | refine ⟨⟨rfl, Nat.le_of_ble_eq_true rfl⟩, ?_⟩
         | refine ⟨⟨rfl, rfl⟩, ?_⟩
         | refine ⟨⟨rfl, (by decide)⟩, ?_⟩
         | refine ⟨⟨rfl, ?_⟩, ?_⟩
         | refine ⟨Or.inr rfl, ?_⟩
         | refine ⟨Or.inl rfl, ?_⟩
         | refine ⟨⟨⟨rfl, rfl, rfl⟩, ?_⟩, ?_⟩
         | refine ⟨_, _, rfl, row_get _ _ arith, rfl, ?_⟩
         | refine ⟨Or.inr (by repeat (first | exact trivial | refine ⟨rfl, ?_⟩)), ?_⟩
         | refine ⟨(?_ : _ = ([] : List (List T))), ?_⟩
         | fail))
  all_goals first
    | (rw [List.length_map, guiltyS_len]; done)
    | (rw [take_all ([] : List Int) arith]; done)
    | (rw [take_all ([] : List Int) arith]; exact beg_0 _)
    | exact beg_0 _
    | (rw [List.take_nil]; done)
    | (rw [List.take_nil]; exact beg_0 _)
    | exact beg_set (guiltyS w ([] : List Int)) (by first | (rw [guiltyS_len]; omega) | exact beg_lt (by assumption))
    | exact beg_end (guiltyS w ([] : List Int)) (by first | (rw [guiltyS_len]; omega) | exact beg_ge (by assumption))
    | rfl
    | skip
theorem c_CloseRound_y (w : DWorld) (d : DDatabase) (h : bigW w) (h8 : w.Devices.length ≤ 1048576) (ha : w.Archive.Rounds.length ≤ 1048576) (hr : w.Replaced.length ≤ 1048576) (hd : bigB d.Rows) (hok : closeOk w = true) (hyes : addOk w.Archive w.Round d = true) : FnAt Tryz.prog 24 [.agg (DWorld.e w), .one (L eI []), .agg (DDatabase.e d)] [.agg (DWorld.rw (closeW w [] d))] := by
  have hk := hok
  simp only [closeOk, Bool.and_eq_true, decide_eq_true_eq] at hk
  obtain ⟨h1, h2⟩ := hk
  have hS := h.1.1
  have hA := h.2.2.1
  have hrd := worldOk_round h1
  have hlg := fun g => guiltyS_len w g
  have hw : IntKind.i64.wrap ((w.Servers.length : Int) - 1) = (w.Servers.length : Int) - 1 := w64_ok (by omega) (by omega)
  have hpos := addRound_pos hyes
  have eW : closeW w [] d = ⟨w.Rows, (guiltyS w []).map beginS, w.Devices, addRound w.Archive w.Round d, w.Master, w.Seed, IntKind.i64.wrap (w.Round + 1), guiltyR w [], w.Cancelled⟩ := by unfold closeW; rw [hok, if_pos rfl]; rfl
  rw [eW]
  refine fn_of Tryz.func24 rfl (by kernel_rfl) rfl ?_
  all_goals repeat' (first
    | (with_reducible rfl)
    | (conv => whnf
       first
         | refine ⟨_, c_copyWorld w h h8, ?_⟩
         | refine ⟨_, c_IsValidWorld w h, ?_⟩
         | refine bcase_F (by rw [h1]; rfl) ?_
         | refine bcase_T (by rw [h1]; rfl) ?_
         | refine bcase_F (by rw [decide_eq_false_iff_not]; omega) ?_
         | refine bcase_T (by rfl) ?_
         | refine ⟨_, c_AddRound w.Archive w.Round d hA ha hd, ?_⟩
         | exact trivial
         | (with_reducible rfl)
         | exact (rfl : (0 : Int) = ((0 : Nat) : Int))
         | exact w64_nat arith
         | refine bcase_T (by first | with_reducible rfl | decide) ?_
         | refine bcase_F (by first | with_reducible rfl | decide) ?_
         | refine bcase_dec (fun _ => ?_) (fun _ => ?_)
         | refine bcase_not ?_
         | refine bcase_intro (fun _ => ?_) (fun _ => ?_)
         | refine ⟨(by with_reducible rfl), ?_⟩
         | refine ⟨congrArg vi ?_, ?_⟩
         | refine ⟨congrArg vb ?_, ?_⟩
         | refine ⟨rfl, ?_⟩
         | refine ⟨(by kernel_rfl : drawOK _ = true), ?_⟩
         | refine Or.inl ?_
         | refine ⟨⟨congrArg (T.int _) ?_, rfl⟩, ?_⟩
         | refine ⟨⟨congrArg T.bool ?_, rfl⟩, ?_⟩
         | refine ⟨⟨rfl, Nat.le_of_ble_eq_true rfl⟩, ?_⟩
         | refine ⟨⟨rfl, rfl⟩, ?_⟩
         | refine ⟨⟨rfl, (by decide)⟩, ?_⟩
         | refine ⟨⟨rfl, ?_⟩, ?_⟩
         | refine ⟨Or.inr rfl, ?_⟩
         | refine ⟨Or.inl rfl, ?_⟩
         | refine ⟨⟨⟨rfl, rfl, rfl⟩, ?_⟩, ?_⟩
         | refine ⟨_, _, rfl, row_get _ _ arith, rfl, ?_⟩
         | refine ⟨Or.inr (by repeat (first | exact trivial | refine ⟨rfl, ?_⟩)), ?_⟩
         | refine ⟨(?_ : _ = ([] : List (List T))), ?_⟩
         | fail))
  conv => whnf
  refine ⟨Nat, fun i => i ≤ 0, fun i => ⟨[(6, .ptr 0 0), (7, .ptr 1 0), (40, vl (([] : List Int).map eI)), (41, vi 0), (42, vi i)], [(0, .box [.t (I 0), .nil, .nil, .t (I 0), .nil, .t (I 0), .t (I 0), .t (I 0), .nil, .t (I 0)]), (1, .box [.t (I w.Rows), .ref 2, .ref 3, .t (I (addRound w.Archive w.Round d).Rows), .ref 4, .t (I w.Master), .t (I w.Seed), .t (I w.Round), .ref 5, .t (I (w.Cancelled))]), (2, .row true true 5 ((guiltyS w (([] : List Int).take i)).map DServer.e)), (3, .row true true 16 (w.Devices.map DDevice.e)), (4, .row true false 2 ((addRound w.Archive w.Round d).Rounds.map DArchivedRound.e)), (5, .row true true 1 ((guiltyR w (([] : List Int).take i)).map eI))], 6⟩, fun i => 0 - i, 0, Nat.zero_le _, sub_at2 [(0, 6, 0), (1, 7, 0), (2, 7, 2), (3, 7, 3), (4, 7, 5), (5, 7, 9)] rfl rfl rfl ?_ ?_, fun i (hi : i ≤ 0) => ?_⟩
  all_goals repeat' (first
    | (with_reducible rfl)
    | (conv => whnf
       first
         | refine bcase_F (by rw [decide_eq_false_iff_not]; (try simp only [List.map_nil, List.length_nil]); omega) ?_
         | exact trivial
         | (with_reducible rfl)
         | exact (rfl : (0 : Int) = ((0 : Nat) : Int))
         | exact w64_nat arith
         | refine bcase_T (by first | with_reducible rfl | decide) ?_
         | refine bcase_F (by first | with_reducible rfl | decide) ?_
         | refine bcase_dec (fun _ => ?_) (fun _ => ?_)
         | refine bcase_not ?_
         | refine bcase_intro (fun _ => ?_) (fun _ => ?_)
         | refine ⟨(by with_reducible rfl), ?_⟩
         | refine ⟨congrArg vi ?_, ?_⟩
         | refine ⟨congrArg vb ?_, ?_⟩
         | refine ⟨rfl, ?_⟩
         | refine ⟨(by kernel_rfl : drawOK _ = true), ?_⟩
         | refine Or.inl ?_
         | refine ⟨⟨congrArg (T.int _) ?_, rfl⟩, ?_⟩
         | refine ⟨⟨congrArg T.bool ?_, rfl⟩, ?_⟩
         | refine ⟨⟨rfl, Nat.le_of_ble_eq_true rfl⟩, ?_⟩
         | refine ⟨⟨rfl, rfl⟩, ?_⟩
         | refine ⟨⟨rfl, (by decide)⟩, ?_⟩
         | refine ⟨⟨rfl, ?_⟩, ?_⟩
         | refine ⟨Or.inr rfl, ?_⟩
         | refine ⟨Or.inl rfl, ?_⟩
         | refine ⟨⟨⟨rfl, rfl, rfl⟩, ?_⟩, ?_⟩
         | refine ⟨_, _, rfl, row_get _ _ arith, rfl, ?_⟩
         | refine ⟨Or.inr (by repeat (first | exact trivial | refine ⟨rfl, ?_⟩)), ?_⟩
         | refine ⟨(?_ : _ = ([] : List (List T))), ?_⟩
         | fail))
  all_goals first
    | (rw [List.length_map]; done)
    | rfl
    | (rw [guiltyS_nil]; done)
    | (rw [guiltyR_nil]; done)
    | exact repl_T' w g arith (by assumption) (by assumption)
    | exact repl_T2 w g arith (by assumption)
    | exact repl_F w g arith (by assumption)
    | exact replR_T w g arith (by assumption)
    | exact replR_F w g arith (by assumption)
    | skip
  conv => whnf
  refine ⟨Nat, fun j => j ≤ w.Servers.length, fun j => ⟨[(6, .ptr 0 0), (7, .ptr 1 0), (50, .c (.ref 2)), (51, vi w.Servers.length), (52, vi j)], [(0, .box [.t (I 0), .nil, .nil, .t (I 0), .nil, .t (I 0), .t (I 0), .t (I 0), .nil, .t (I 0)]), (1, .box [.t (I w.Rows), .ref 2, .ref 3, .t (I (addRound w.Archive w.Round d).Rows), .ref 4, .t (I w.Master), .t (I w.Seed), .t (I w.Round), .ref 5, .t (I (w.Cancelled))]), (2, .row true true 5 ((((guiltyS w ([] : List Int)).take j).map beginS ++ (guiltyS w ([] : List Int)).drop j).map DServer.e)), (3, .row true true 16 (w.Devices.map DDevice.e)), (4, .row true false 2 ((addRound w.Archive w.Round d).Rounds.map DArchivedRound.e)), (5, .row true true 1 ((guiltyR w ([] : List Int)).map eI))], 6⟩, fun j => w.Servers.length - j, 0, Nat.zero_le _, sub_at2 [(0, 6, 0), (1, 7, 0), (2, 7, 2), (3, 7, 3), (4, 7, 5), (5, 7, 9)] rfl rfl rfl ?_ ?_, fun j (hj : j ≤ w.Servers.length) => ?_⟩
  all_goals repeat' (first
    | (with_reducible rfl)
    | (conv => whnf
       first
         | refine ⟨_, c_BeginRound ((guiltyS w ([] : List Int))[j]'(by first | (rw [guiltyS_len]; omega) | exact beg_lt (by assumption))) (guiltyS_big w _ h.1 _ (List.getElem_mem _)), ?_⟩
         | refine ⟨j, rfl, (by first | (rw [beg_len, guiltyS_len]; omega) | omega), ?_⟩
         | refine ⟨_, beg_row (guiltyS w ([] : List Int)) (by first | (rw [guiltyS_len]; omega) | exact beg_lt (by assumption)), ⟨rfl, Nat.le_of_ble_eq_true rfl⟩, ?_⟩
         | refine ⟨_, beg_row (guiltyS w ([] : List Int)) (by first | (rw [guiltyS_len]; omega) | exact beg_lt (by assumption)), ?_⟩
         | refine ⟨j + 1, ⟨arith, arith⟩, sub_at2 [(0, 6, 0), (1, 7, 0), (2, 7, 2), (3, 7, 3), (4, 7, 5), (5, 7, 9)] rfl rfl rfl ?_ ?_⟩
         | refine ⟨Or.inr (by rw [List.length_map]; exact hpos), ?_⟩
         | exact trivial
         | (with_reducible rfl)
         | exact (rfl : (0 : Int) = ((0 : Nat) : Int))
         | exact w64_nat arith
         | refine bcase_T (by first | with_reducible rfl | decide) ?_
         | refine bcase_F (by first | with_reducible rfl | decide) ?_
         | refine bcase_dec (fun _ => ?_) (fun _ => ?_)
         | refine bcase_not ?_
         | refine bcase_intro (fun _ => ?_) (fun _ => ?_)
         | refine ⟨(by with_reducible rfl), ?_⟩
         | refine ⟨congrArg vi ?_, ?_⟩
         | refine ⟨congrArg vb ?_, ?_⟩
         | refine ⟨rfl, ?_⟩
         | refine ⟨(by kernel_rfl : drawOK _ = true), ?_⟩
         | refine Or.inl ?_
         | refine ⟨⟨congrArg (T.int _) ?_, rfl⟩, ?_⟩
         | refine ⟨⟨congrArg T.bool ?_, rfl⟩, ?_⟩
         | refine ⟨⟨rfl, Nat.le_of_ble_eq_true rfl⟩, ?_⟩
         | refine ⟨⟨rfl, rfl⟩, ?_⟩
         | refine ⟨⟨rfl, (by decide)⟩, ?_⟩
         | refine ⟨⟨rfl, ?_⟩, ?_⟩
         | refine ⟨Or.inr rfl, ?_⟩
         | refine ⟨Or.inl rfl, ?_⟩
         | refine ⟨⟨⟨rfl, rfl, rfl⟩, ?_⟩, ?_⟩
         | refine ⟨_, _, rfl, row_get _ _ arith, rfl, ?_⟩
         | refine ⟨Or.inr (by repeat (first | exact trivial | refine ⟨rfl, ?_⟩)), ?_⟩
         | refine ⟨(?_ : _ = ([] : List (List T))), ?_⟩
         | fail))
  all_goals first
    | (rw [List.length_map, guiltyS_len]; done)
    | (rw [take_all ([] : List Int) arith]; done)
    | (rw [take_all ([] : List Int) arith]; exact beg_0 _)
    | exact beg_0 _
    | (rw [List.take_nil]; done)
    | (rw [List.take_nil]; exact beg_0 _)
    | exact beg_set (guiltyS w ([] : List Int)) (by first | (rw [guiltyS_len]; omega) | exact beg_lt (by assumption))
    | exact beg_end (guiltyS w ([] : List Int)) (by first | (rw [guiltyS_len]; omega) | exact beg_ge (by assumption))
    | rfl
    | skip
theorem c_sCloseRound_x (w : DWorld) (g : List Int) (d : DDatabase) (h : bigW w) (h8 : w.Devices.length ≤ 1048576) (hok : closeOk w = false) : FnAt Tryz.prog 20 [.agg (DWorld.e w), .one (L eI g), .agg (DDatabase.e d)] [.agg (DWorld.rw (closeW w g d))] := by
  have e2 : closeW w g d = w := by unfold closeW; rw [hok]; rfl
  rw [e2]
  cases h1 : worldOk w with
  | false =>
    refine fn_of Tryz.func20 rfl (by kernel_rfl) rfl ?_
    all_goals repeat' (first
      | (with_reducible rfl)
      | (conv => whnf
         first
           | refine ⟨_, c_l32Copy w h h8, ?_⟩
           | refine ⟨_, c_sIsValidWorld w h, ?_⟩
           | refine bcase_T (by rw [h1]; rfl) ?_
           | exact trivial
           | (with_reducible rfl)
           | exact (rfl : (0 : Int) = ((0 : Nat) : Int))
           | exact w64_nat arith
           | refine bcase_T (by first | with_reducible rfl | decide) ?_
           | refine bcase_F (by first | with_reducible rfl | decide) ?_
           | refine bcase_dec (fun _ => ?_) (fun _ => ?_)
           | refine bcase_not ?_
           | refine bcase_intro (fun _ => ?_) (fun _ => ?_)
           | refine ⟨(by with_reducible rfl), ?_⟩
           | refine ⟨congrArg vi ?_, ?_⟩
           | refine ⟨congrArg vb ?_, ?_⟩
           | refine ⟨rfl, ?_⟩
           | refine ⟨(by kernel_rfl : drawOK _ = true), ?_⟩
           | refine Or.inl ?_
           | refine ⟨⟨congrArg (T.int _) ?_, rfl⟩, ?_⟩
           | refine ⟨⟨congrArg T.bool ?_, rfl⟩, ?_⟩
           | refine ⟨⟨rfl, Nat.le_of_ble_eq_true rfl⟩, ?_⟩
           | refine ⟨⟨rfl, rfl⟩, ?_⟩
           | refine ⟨⟨rfl, (by decide)⟩, ?_⟩
           | refine ⟨⟨rfl, ?_⟩, ?_⟩
           | refine ⟨Or.inr rfl, ?_⟩
           | refine ⟨Or.inl rfl, ?_⟩
           | refine ⟨⟨⟨rfl, rfl, rfl⟩, ?_⟩, ?_⟩
           | refine ⟨_, _, rfl, row_get _ _ arith, rfl, ?_⟩
           | refine ⟨Or.inr (by repeat (first | exact trivial | refine ⟨rfl, ?_⟩)), ?_⟩
           | refine ⟨(?_ : _ = ([] : List (List T))), ?_⟩
           | fail))
    all_goals rfl
  | true =>
    have h2 : ¬ (w.Round < 99999) := by intro hh; unfold closeOk at hok; rw [h1] at hok; simp at hok; omega
    refine fn_of Tryz.func20 rfl (by kernel_rfl) rfl ?_
    all_goals repeat' (first
      | (with_reducible rfl)
      | (conv => whnf
         first
           | refine ⟨_, c_l32Copy w h h8, ?_⟩
           | refine ⟨_, c_sIsValidWorld w h, ?_⟩
           | refine bcase_F (by rw [h1]; rfl) ?_
           | refine bcase_T (by rw [h1]; rfl) ?_
           | refine bcase_T (by rw [decide_eq_true_eq]; omega) ?_
           | exact trivial
           | (with_reducible rfl)
           | exact (rfl : (0 : Int) = ((0 : Nat) : Int))
           | exact w64_nat arith
           | refine bcase_T (by first | with_reducible rfl | decide) ?_
           | refine bcase_F (by first | with_reducible rfl | decide) ?_
           | refine bcase_dec (fun _ => ?_) (fun _ => ?_)
           | refine bcase_not ?_
           | refine bcase_intro (fun _ => ?_) (fun _ => ?_)
           | refine ⟨(by with_reducible rfl), ?_⟩
           | refine ⟨congrArg vi ?_, ?_⟩
           | refine ⟨congrArg vb ?_, ?_⟩
           | refine ⟨rfl, ?_⟩
           | refine ⟨(by kernel_rfl : drawOK _ = true), ?_⟩
           | refine Or.inl ?_
           | refine ⟨⟨congrArg (T.int _) ?_, rfl⟩, ?_⟩
           | refine ⟨⟨congrArg T.bool ?_, rfl⟩, ?_⟩
           | refine ⟨⟨rfl, Nat.le_of_ble_eq_true rfl⟩, ?_⟩
           | refine ⟨⟨rfl, rfl⟩, ?_⟩
           | refine ⟨⟨rfl, (by decide)⟩, ?_⟩
           | refine ⟨⟨rfl, ?_⟩, ?_⟩
           | refine ⟨Or.inr rfl, ?_⟩
           | refine ⟨Or.inl rfl, ?_⟩
           | refine ⟨⟨⟨rfl, rfl, rfl⟩, ?_⟩, ?_⟩
           | refine ⟨_, _, rfl, row_get _ _ arith, rfl, ?_⟩
           | refine ⟨Or.inr (by repeat (first | exact trivial | refine ⟨rfl, ?_⟩)), ?_⟩
           | refine ⟨(?_ : _ = ([] : List (List T))), ?_⟩
           | fail))
    all_goals rfl
theorem c_sCloseRound_g (w : DWorld) (g : List Int) (d : DDatabase) (h : bigW w) (h8 : w.Devices.length ≤ 1048576) (ha : w.Archive.Rounds.length ≤ 1048576) (hg : g.length ≤ 1048576) (hr : w.Replaced.length ≤ 1048576) (hd : bigB d.Rows) (hok : closeOk w = true) (hne : g ≠ []) : FnAt Tryz.prog 20 [.agg (DWorld.e w), .one (L eI g), .agg (DDatabase.e d)] [.agg (DWorld.rw (closeW w g d))] := by
  have hk := hok
  simp only [closeOk, Bool.and_eq_true, decide_eq_true_eq] at hk
  obtain ⟨h1, h2⟩ := hk
  have hS := h.1.1
  have hA := h.2.2.1
  have hrd := worldOk_round h1
  have hlg := fun g => guiltyS_len w g
  have hw : IntKind.i64.wrap ((w.Servers.length : Int) - 1) = (w.Servers.length : Int) - 1 := w64_ok (by omega) (by omega)
  have hg0 : 0 < g.length := by cases g with | nil => exact absurd rfl hne | cons x g => simp
  have eA : closeA w g d = w.Archive := by cases g with | nil => exact absurd rfl hne | cons x g => rfl
  have eC : closeC w g = IntKind.i64.wrap (w.Cancelled + 1) := by cases g with | nil => exact absurd rfl hne | cons x g => rfl
  have eW : closeW w g d = ⟨w.Rows, (guiltyS w g).map beginS, w.Devices, w.Archive, w.Master, w.Seed, IntKind.i64.wrap (w.Round + 1), guiltyR w g, IntKind.i64.wrap (w.Cancelled + 1)⟩ := by unfold closeW; rw [hok, if_pos rfl]; rw [eA, eC]
  rw [eW]
  refine fn_of Tryz.func20 rfl (by kernel_rfl) rfl ?_
  all_goals repeat' (first
    | (with_reducible rfl)
    | (conv => whnf
       first
         | refine ⟨_, c_l32Copy w h h8, ?_⟩
         | refine ⟨_, c_sIsValidWorld w h, ?_⟩
         | refine bcase_F (by rw [h1]; rfl) ?_
         | refine bcase_T (by rw [h1]; rfl) ?_
         | refine bcase_F (by rw [decide_eq_false_iff_not]; omega) ?_
         | refine bcase_F (by rw [beq_eq_false_iff_ne, List.length_map]; omega) ?_
         | exact trivial
         | (with_reducible rfl)
         | exact (rfl : (0 : Int) = ((0 : Nat) : Int))
         | exact w64_nat arith
         | refine bcase_T (by first | with_reducible rfl | decide) ?_
         | refine bcase_F (by first | with_reducible rfl | decide) ?_
         | refine bcase_dec (fun _ => ?_) (fun _ => ?_)
         | refine bcase_not ?_
         | refine bcase_intro (fun _ => ?_) (fun _ => ?_)
         | refine ⟨(by with_reducible rfl), ?_⟩
         | refine ⟨congrArg vi ?_, ?_⟩
         | refine ⟨congrArg vb ?_, ?_⟩
         | refine ⟨rfl, ?_⟩
         | refine ⟨(by kernel_rfl : drawOK _ = true), ?_⟩
         | refine Or.inl ?_
         | refine ⟨⟨congrArg (T.int _) ?_, rfl⟩, ?_⟩
         | refine ⟨⟨congrArg T.bool ?_, rfl⟩, ?_⟩
         | refine ⟨⟨rfl, Nat.le_of_ble_eq_true rfl⟩, ?_⟩
         | refine ⟨⟨rfl, rfl⟩, ?_⟩
         | refine ⟨⟨rfl, (by decide)⟩, ?_⟩
         | refine ⟨⟨rfl, ?_⟩, ?_⟩
         | refine ⟨Or.inr rfl, ?_⟩
         | refine ⟨Or.inl rfl, ?_⟩
         | refine ⟨⟨⟨rfl, rfl, rfl⟩, ?_⟩, ?_⟩
         | refine ⟨_, _, rfl, row_get _ _ arith, rfl, ?_⟩
         | refine ⟨Or.inr (by repeat (first | exact trivial | refine ⟨rfl, ?_⟩)), ?_⟩
         | refine ⟨(?_ : _ = ([] : List (List T))), ?_⟩
         | fail))
  conv => whnf
  refine ⟨Nat, fun i => i ≤ g.length, fun i => ⟨[(1, vl (g.map eI)), (3, .ptr 6 0), (6, .ptr 0 0), (7, .ptr 1 0), (10, vi i)], [(0, .box [.t (I 0), .nil, .nil, .t (I 0), .nil, .t (I 0), .t (I 0), .t (I 0), .nil, .t (I 0)]), (1, .box [.t (I w.Rows), .ref 2, .ref 3, .t (I w.Archive.Rows), .ref 4, .t (I w.Master), .t (I w.Seed), .t (I w.Round), .ref 5, .t (I (IntKind.i64.wrap (w.Cancelled + 1)))]), (2, .row true true 5 ((guiltyS w (g.take i)).map DServer.e)), (3, .row true true 16 (w.Devices.map DDevice.e)), (4, .row true true 2 (w.Archive.Rounds.map DArchivedRound.e)), (5, .row true true 1 ((guiltyR w (g.take i)).map eI)), (6, .box ((DWorld.e w).map .t))], 7⟩, fun i => g.length - i, 0, Nat.zero_le _, sub_at2 [(0, 6, 0), (1, 7, 0), (2, 7, 2), (3, 7, 3), (4, 7, 5), (5, 7, 9), (6, 3, 0)] rfl rfl rfl ?_ ?_, fun i (hi : i ≤ g.length) => ?_⟩
  all_goals repeat' (first
    | (with_reducible rfl)
    | (conv => whnf
       first
         | (refine Or.inr ⟨rfl, Or.inr (Or.inr ?_)⟩; (conv => whnf); refine jat_ Tryz.func79 rfl (by kernel_rfl) (by rfl) (by rfl) ?_)
         | refine ⟨_, fn_args (c_l1In (g[i]'arith) 0 ((w.Servers.length : Int) - 1)) (by rw [List.length_map, guiltyS_len, hw]; rfl), ?_⟩
         | refine ⟨_, c_sNewServer (g[i]'arith) w.Rows 0, ?_⟩
         | refine ⟨i, _, rfl, row_get _ _ arith, rfl, ?_⟩
         | refine ⟨(g[i]'arith).toNat, tonat (by assumption), guilty_idx w _ (by assumption), ?_⟩
         | refine ⟨_, guilty_row w _ (by assumption), ⟨rfl, Nat.le_of_ble_eq_true rfl⟩, ?_⟩
         | (have hrl := guiltyR_le w g i; refine ⟨true, fun _ => (by simp [isScal]), ⟨rfl, rfl⟩, ⟨bnd, bnd⟩, ?_⟩)
         | (have hrl := guiltyR_le w g i; refine ⟨⟨bnd, bnd⟩, ?_⟩)
         | refine ⟨i + 1, ⟨arith, arith⟩, sub_at2 [(0, 6, 0), (1, 7, 0), (2, 7, 2), (3, 7, 3), (4, 7, 5), (5, 7, 9), (6, 3, 0)] rfl rfl rfl ?_ ?_⟩
         | exact trivial
         | (with_reducible rfl)
         | exact (rfl : (0 : Int) = ((0 : Nat) : Int))
         | exact w64_nat arith
         | refine bcase_T (by first | with_reducible rfl | decide) ?_
         | refine bcase_F (by first | with_reducible rfl | decide) ?_
         | refine bcase_dec (fun _ => ?_) (fun _ => ?_)
         | refine bcase_not ?_
         | refine bcase_intro (fun _ => ?_) (fun _ => ?_)
         | refine ⟨(by with_reducible rfl), ?_⟩
         | refine ⟨congrArg vi ?_, ?_⟩
         | refine ⟨congrArg vb ?_, ?_⟩
         | refine ⟨rfl, ?_⟩
         | refine ⟨(by kernel_rfl : drawOK _ = true), ?_⟩
         | refine Or.inl ?_
         | refine ⟨⟨congrArg (T.int _) ?_, rfl⟩, ?_⟩
         | refine ⟨⟨congrArg T.bool ?_, rfl⟩, ?_⟩
         | refine ⟨⟨rfl, Nat.le_of_ble_eq_true rfl⟩, ?_⟩
         | refine ⟨⟨rfl, rfl⟩, ?_⟩
         | refine ⟨⟨rfl, (by decide)⟩, ?_⟩
         | refine ⟨⟨rfl, ?_⟩, ?_⟩
         | refine ⟨Or.inr rfl, ?_⟩
         | refine ⟨Or.inl rfl, ?_⟩
         | refine ⟨⟨⟨rfl, rfl, rfl⟩, ?_⟩, ?_⟩
         | refine ⟨_, _, rfl, row_get _ _ arith, rfl, ?_⟩
         | refine ⟨Or.inr (by repeat (first | exact trivial | refine ⟨rfl, ?_⟩)), ?_⟩
         | refine ⟨(?_ : _ = ([] : List (List T))), ?_⟩
         | fail))
  all_goals first
    | (rw [List.length_map]; done)
    | rfl
    | (rw [guiltyS_nil]; done)
    | (rw [guiltyR_nil]; done)
    | exact repl_T' w g arith (by assumption) (by assumption)
    | exact repl_T2 w g arith (by assumption)
    | exact repl_F w g arith (by assumption)
    | exact replR_T w g arith (by assumption)
    | exact replR_F w g arith (by assumption)
    | skip
  conv => whnf
  refine ⟨Nat, fun j => j ≤ w.Servers.length, fun j => ⟨[(3, .ptr 6 0), (6, .ptr 0 0), (7, .ptr 1 0), (11, vi j)], [(0, .box [.t (I 0), .nil, .nil, .t (I 0), .nil, .t (I 0), .t (I 0), .t (I 0), .nil, .t (I 0)]), (1, .box [.t (I w.Rows), .ref 2, .ref 3, .t (I w.Archive.Rows), .ref 4, .t (I w.Master), .t (I w.Seed), .t (I w.Round), .ref 5, .t (I (IntKind.i64.wrap (w.Cancelled + 1)))]), (2, .row true true 5 ((((guiltyS w g).take j).map beginS ++ (guiltyS w g).drop j).map DServer.e)), (3, .row true true 16 (w.Devices.map DDevice.e)), (4, .row true true 2 (w.Archive.Rounds.map DArchivedRound.e)), (5, .row true true 1 ((guiltyR w g).map eI)), (6, .box ((DWorld.e w).map .t))], 7⟩, fun j => w.Servers.length - j, 0, Nat.zero_le _, sub_at2 [(0, 6, 0), (1, 7, 0), (2, 7, 2), (3, 7, 3), (4, 7, 5), (5, 7, 9), (6, 3, 0)] rfl rfl rfl ?_ ?_, fun j (hj : j ≤ w.Servers.length) => ?_⟩
  all_goals repeat' (first
    | (with_reducible rfl)
    | (conv => whnf
       first
         | refine ⟨_, c_sBeginRound ((guiltyS w g)[j]'(by first | (rw [guiltyS_len]; omega) | exact beg_lt (by assumption))) (guiltyS_big w _ h.1 _ (List.getElem_mem _)), ?_⟩
         | refine ⟨j, rfl, (by first | (rw [beg_len, guiltyS_len]; omega) | omega), ?_⟩
         | refine ⟨_, beg_row (guiltyS w g) (by first | (rw [guiltyS_len]; omega) | exact beg_lt (by assumption)), ⟨rfl, Nat.le_of_ble_eq_true rfl⟩, ?_⟩
         | refine ⟨_, beg_row (guiltyS w g) (by first | (rw [guiltyS_len]; omega) | exact beg_lt (by assumption)), ?_⟩
         | (have hjl := beg_lt (l := guiltyS w g) (by assumption); rw [guiltyS_len] at hjl; refine ⟨j + 1, ⟨arith, arith⟩, sub_at2 [(0, 6, 0), (1, 7, 0), (2, 7, 2), (3, 7, 3), (4, 7, 5), (5, 7, 9), (6, 3, 0)] rfl rfl rfl ?_ ?_⟩)
         | exact trivial
         | (with_reducible rfl)
         | exact (rfl : (0 : Int) = ((0 : Nat) : Int))
         | exact w64_nat arith
         | refine bcase_T (by first | with_reducible rfl | decide) ?_
         | refine bcase_F (by first | with_reducible rfl | decide) ?_
         | refine bcase_dec (fun _ => ?_) (fun _ => ?_)
         | refine bcase_not ?_
         | refine bcase_intro (fun _ => ?_) (fun _ => ?_)
         | refine ⟨(by with_reducible rfl), ?_⟩
         | refine ⟨congrArg vi ?_, ?_⟩
         | refine ⟨congrArg vb ?_, ?_⟩
         | refine ⟨rfl, ?_⟩
         | refine ⟨(by kernel_rfl : drawOK _ = true), ?_⟩
         | refine Or.inl ?_
         | refine ⟨⟨congrArg (T.int _) ?_, rfl⟩, ?_⟩
         | refine ⟨⟨congrArg T.bool ?_, rfl⟩, ?_⟩
         | refine ⟨⟨rfl, Nat.le_of_ble_eq_true rfl⟩, ?_⟩
         | refine ⟨⟨rfl, rfl⟩, ?_⟩
         | refine ⟨⟨rfl, (by decide)⟩, ?_⟩
         | refine ⟨⟨rfl, ?_⟩, ?_⟩
         | refine ⟨Or.inr rfl, ?_⟩
         | refine ⟨Or.inl rfl, ?_⟩
         | refine ⟨⟨⟨rfl, rfl, rfl⟩, ?_⟩, ?_⟩
         | refine ⟨_, _, rfl, row_get _ _ arith, rfl, ?_⟩
         | refine ⟨Or.inr (by repeat (first | exact trivial | refine ⟨rfl, ?_⟩)), ?_⟩
         | refine ⟨(?_ : _ = ([] : List (List T))), ?_⟩
         | fail))
  all_goals first
    | (rw [List.length_map, guiltyS_len]; done)
    | (rw [take_all g arith]; done)
    | (rw [take_all g arith]; exact beg_0 _)
    | exact beg_0 _
    | (rw [List.take_nil]; done)
    | (rw [List.take_nil]; exact beg_0 _)
    | exact beg_set (guiltyS w g) (by first | (rw [guiltyS_len]; omega) | exact beg_lt (by assumption))
    | exact beg_end (guiltyS w g) (by first | (rw [guiltyS_len]; omega) | exact beg_ge (by assumption))
    | rfl
    | skip
theorem c_sCloseRound_n (w : DWorld) (d : DDatabase) (h : bigW w) (h8 : w.Devices.length ≤ 1048576) (ha : w.Archive.Rounds.length ≤ 1048576) (hr : w.Replaced.length ≤ 1048576) (hd : bigB d.Rows) (hok : closeOk w = true) (hno : addOk w.Archive w.Round d = false) : FnAt Tryz.prog 20 [.agg (DWorld.e w), .one (L eI []), .agg (DDatabase.e d)] [.agg (DWorld.rw (closeW w [] d))] := by
  have hk := hok
  simp only [closeOk, Bool.and_eq_true, decide_eq_true_eq] at hk
  obtain ⟨h1, h2⟩ := hk
  have hS := h.1.1
  have hA := h.2.2.1
  have hrd := worldOk_round h1
  have hlg := fun g => guiltyS_len w g
  have hw : IntKind.i64.wrap ((w.Servers.length : Int) - 1) = (w.Servers.length : Int) - 1 := w64_ok (by omega) (by omega)
  have eN : closeA w [] d = w.Archive := by show addRound w.Archive w.Round d = w.Archive; unfold addRound; rw [hno]; rfl
  have eW : closeW w [] d = ⟨w.Rows, (guiltyS w []).map beginS, w.Devices, w.Archive, w.Master, w.Seed, IntKind.i64.wrap (w.Round + 1), guiltyR w [], w.Cancelled⟩ := by unfold closeW; rw [hok, if_pos rfl]; rw [eN]; rfl
  rw [eW]
  refine fn_of Tryz.func20 rfl (by kernel_rfl) rfl ?_
  all_goals repeat' (first
    | (with_reducible rfl)
    | (conv => whnf
       first
         | refine ⟨_, c_l32Copy w h h8, ?_⟩
         | refine ⟨_, c_sIsValidWorld w h, ?_⟩
         | refine bcase_F (by rw [h1]; rfl) ?_
         | refine bcase_T (by rw [h1]; rfl) ?_
         | refine bcase_F (by rw [decide_eq_false_iff_not]; omega) ?_
         | refine bcase_T (by rfl) ?_
         | refine ⟨_, c_sAddRound_no w.Archive w.Round d hA ha hd hno, ?_⟩
         | exact trivial
         | (with_reducible rfl)
         | exact (rfl : (0 : Int) = ((0 : Nat) : Int))
         | exact w64_nat arith
         | refine bcase_T (by first | with_reducible rfl | decide) ?_
         | refine bcase_F (by first | with_reducible rfl | decide) ?_
         | refine bcase_dec (fun _ => ?_) (fun _ => ?_)
         | refine bcase_not ?_
         | refine bcase_intro (fun _ => ?_) (fun _ => ?_)
         | refine ⟨(by with_reducible rfl), ?_⟩
         | refine ⟨congrArg vi ?_, ?_⟩
         | refine ⟨congrArg vb ?_, ?_⟩
         | refine ⟨rfl, ?_⟩
         | refine ⟨(by kernel_rfl : drawOK _ = true), ?_⟩
         | refine Or.inl ?_
         | refine ⟨⟨congrArg (T.int _) ?_, rfl⟩, ?_⟩
         | refine ⟨⟨congrArg T.bool ?_, rfl⟩, ?_⟩
         | refine ⟨⟨rfl, Nat.le_of_ble_eq_true rfl⟩, ?_⟩
         | refine ⟨⟨rfl, rfl⟩, ?_⟩
         | refine ⟨⟨rfl, (by decide)⟩, ?_⟩
         | refine ⟨⟨rfl, ?_⟩, ?_⟩
         | refine ⟨Or.inr rfl, ?_⟩
         | refine ⟨Or.inl rfl, ?_⟩
         | refine ⟨⟨⟨rfl, rfl, rfl⟩, ?_⟩, ?_⟩
         | refine ⟨_, _, rfl, row_get _ _ arith, rfl, ?_⟩
         | refine ⟨Or.inr (by repeat (first | exact trivial | refine ⟨rfl, ?_⟩)), ?_⟩
         | refine ⟨(?_ : _ = ([] : List (List T))), ?_⟩
         | fail))
  conv => whnf
  refine ⟨Nat, fun i => i ≤ 0, fun i => ⟨[(1, vl (([] : List Int).map eI)), (3, .ptr 6 0), (6, .ptr 0 0), (7, .ptr 1 0), (10, vi i)], [(0, .box [.t (I 0), .nil, .nil, .t (I 0), .nil, .t (I 0), .t (I 0), .t (I 0), .nil, .t (I 0)]), (1, .box [.t (I w.Rows), .ref 2, .ref 3, .t (I w.Archive.Rows), .ref 4, .t (I w.Master), .t (I w.Seed), .t (I w.Round), .ref 5, .t (I (w.Cancelled))]), (2, .row true true 5 ((guiltyS w (([] : List Int).take i)).map DServer.e)), (3, .row true true 16 (w.Devices.map DDevice.e)), (4, .row true true 2 (w.Archive.Rounds.map DArchivedRound.e)), (5, .row true true 1 ((guiltyR w (([] : List Int).take i)).map eI)), (6, .box ((DWorld.e w).map .t))], 7⟩, fun i => 0 - i, 0, Nat.zero_le _, sub_at2 [(0, 6, 0), (1, 7, 0), (2, 7, 2), (3, 7, 3), (4, 7, 5), (5, 7, 9), (6, 3, 0)] rfl rfl rfl ?_ ?_, fun i (hi : i ≤ 0) => ?_⟩
  all_goals repeat' (first
    | (with_reducible rfl)
    | (conv => whnf
       first
         | refine bcase_F (by rw [decide_eq_false_iff_not]; (try simp only [List.map_nil, List.length_nil]); omega) ?_
         | exact trivial
         | (with_reducible rfl)
         | exact (rfl : (0 : Int) = ((0 : Nat) : Int))
         | exact w64_nat arith
         | refine bcase_T (by first | with_reducible rfl | decide) ?_
         | refine bcase_F (by first | with_reducible rfl | decide) ?_
         | refine bcase_dec (fun _ => ?_) (fun _ => ?_)
         | refine bcase_not ?_
         | refine bcase_intro (fun _ => ?_) (fun _ => ?_)
         | refine ⟨(by with_reducible rfl), ?_⟩
         | refine ⟨congrArg vi ?_, ?_⟩
         | refine ⟨congrArg vb ?_, ?_⟩
         | refine ⟨rfl, ?_⟩
         | refine ⟨(by kernel_rfl : drawOK _ = true), ?_⟩
         | refine Or.inl ?_
         | refine ⟨⟨congrArg (T.int _) ?_, rfl⟩, ?_⟩
         | refine ⟨⟨congrArg T.bool ?_, rfl⟩, ?_⟩
         | refine ⟨⟨rfl, Nat.le_of_ble_eq_true rfl⟩, ?_⟩
         | refine ⟨⟨rfl, rfl⟩, ?_⟩
         | refine ⟨⟨rfl, (by decide)⟩, ?_⟩
         | refine ⟨⟨rfl, ?_⟩, ?_⟩
         | refine ⟨Or.inr rfl, ?_⟩
         | refine ⟨Or.inl rfl, ?_⟩
         | refine ⟨⟨⟨rfl, rfl, rfl⟩, ?_⟩, ?_⟩
         | refine ⟨_, _, rfl, row_get _ _ arith, rfl, ?_⟩
         | refine ⟨Or.inr (by repeat (first | exact trivial | refine ⟨rfl, ?_⟩)), ?_⟩
         | refine ⟨(?_ : _ = ([] : List (List T))), ?_⟩
         | fail))
  all_goals first
    | (rw [List.length_map]; done)
    | rfl
    | (rw [guiltyS_nil]; done)
    | (rw [guiltyR_nil]; done)
    | exact repl_T' w g arith (by assumption) (by assumption)
    | exact repl_T2 w g arith (by assumption)
    | exact repl_F w g arith (by assumption)
    | exact replR_T w g arith (by assumption)
    | exact replR_F w g arith (by assumption)
    | skip
  conv => whnf
  refine ⟨Nat, fun j => j ≤ w.Servers.length, fun j => ⟨[(3, .ptr 6 0), (6, .ptr 0 0), (7, .ptr 1 0), (11, vi j)], [(0, .box [.t (I 0), .nil, .nil, .t (I 0), .nil, .t (I 0), .t (I 0), .t (I 0), .nil, .t (I 0)]), (1, .box [.t (I w.Rows), .ref 2, .ref 3, .t (I w.Archive.Rows), .ref 4, .t (I w.Master), .t (I w.Seed), .t (I w.Round), .ref 5, .t (I (w.Cancelled))]), (2, .row true true 5 ((((guiltyS w ([] : List Int)).take j).map beginS ++ (guiltyS w ([] : List Int)).drop j).map DServer.e)), (3, .row true true 16 (w.Devices.map DDevice.e)), (4, .row true true 2 (w.Archive.Rounds.map DArchivedRound.e)), (5, .row true true 1 ((guiltyR w ([] : List Int)).map eI)), (6, .box ((DWorld.e w).map .t))], 7⟩, fun j => w.Servers.length - j, 0, Nat.zero_le _, sub_at2 [(0, 6, 0), (1, 7, 0), (2, 7, 2), (3, 7, 3), (4, 7, 5), (5, 7, 9), (6, 3, 0)] rfl rfl rfl ?_ ?_, fun j (hj : j ≤ w.Servers.length) => ?_⟩
  all_goals repeat' (first
    | (with_reducible rfl)
    | (conv => whnf
       first
         | refine ⟨_, c_sBeginRound ((guiltyS w ([] : List Int))[j]'(by first | (rw [guiltyS_len]; omega) | exact beg_lt (by assumption))) (guiltyS_big w _ h.1 _ (List.getElem_mem _)), ?_⟩
         | refine ⟨j, rfl, (by first | (rw [beg_len, guiltyS_len]; omega) | omega), ?_⟩
         | refine ⟨_, beg_row (guiltyS w ([] : List Int)) (by first | (rw [guiltyS_len]; omega) | exact beg_lt (by assumption)), ⟨rfl, Nat.le_of_ble_eq_true rfl⟩, ?_⟩
         | refine ⟨_, beg_row (guiltyS w ([] : List Int)) (by first | (rw [guiltyS_len]; omega) | exact beg_lt (by assumption)), ?_⟩
         | (have hjl := beg_lt (l := guiltyS w ([] : List Int)) (by assumption); rw [guiltyS_len] at hjl; refine ⟨j + 1, ⟨arith, arith⟩, sub_at2 [(0, 6, 0), (1, 7, 0), (2, 7, 2), (3, 7, 3), (4, 7, 5), (5, 7, 9), (6, 3, 0)] rfl rfl rfl ?_ ?_⟩)
         | exact trivial
         | (with_reducible rfl)
         | exact (rfl : (0 : Int) = ((0 : Nat) : Int))
         | exact w64_nat arith
         | refine bcase_T (by first | with_reducible rfl | decide) ?_
         | refine bcase_F (by first | with_reducible rfl | decide) ?_
         | refine bcase_dec (fun _ => ?_) (fun _ => ?_)
         | refine bcase_not ?_
         | refine bcase_intro (fun _ => ?_) (fun _ => ?_)
         | refine ⟨(by with_reducible rfl), ?_⟩
         | refine ⟨congrArg vi ?_, ?_⟩
         | refine ⟨congrArg vb ?_, ?_⟩
         | refine ⟨rfl, ?_⟩
         | refine ⟨(by kernel_rfl : drawOK _ = true), ?_⟩
         | refine Or.inl ?_
         | refine ⟨⟨congrArg (T.int _) ?_, rfl⟩, ?_⟩
         | refine ⟨⟨congrArg T.bool ?_, rfl⟩, ?_⟩
         | refine ⟨⟨rfl, Nat.le_of_ble_eq_true rfl⟩, ?_⟩
         | refine ⟨⟨rfl, rfl⟩, ?_⟩
         | refine ⟨⟨rfl, (by decide)⟩, ?_⟩
         | refine ⟨⟨rfl, ?_⟩, ?_⟩
         | refine ⟨Or.inr rfl, ?_⟩
         | refine ⟨Or.inl rfl, ?_⟩
         | refine ⟨⟨⟨rfl, rfl, rfl⟩, ?_⟩, ?_⟩
         | refine ⟨_, _, rfl, row_get _ _ arith, rfl, ?_⟩
         | refine ⟨Or.inr (by repeat (first | exact trivial | refine ⟨rfl, ?_⟩)), ?_⟩
         | refine ⟨(?_ : _ = ([] : List (List T))), ?_⟩
         | fail))
  all_goals first
    | (rw [List.length_map, guiltyS_len]; done)
    | (rw [take_all ([] : List Int) arith]; done)
    | (rw [take_all ([] : List Int) arith]; exact beg_0 _)
    | exact beg_0 _
    | (rw [List.take_nil]; done)
    | (rw [List.take_nil]; exact beg_0 _)
    | exact beg_set (guiltyS w ([] : List Int)) (by first | (rw [guiltyS_len]; omega) | exact beg_lt (by assumption))
    | exact beg_end (guiltyS w ([] : List Int)) (by first | (rw [guiltyS_len]; omega) | exact beg_ge (by assumption))
    | rfl
    | skip
theorem c_sCloseRound_y (w : DWorld) (d : DDatabase) (h : bigW w) (h8 : w.Devices.length ≤ 1048576) (ha : w.Archive.Rounds.length ≤ 1048576) (hr : w.Replaced.length ≤ 1048576) (hd : bigB d.Rows) (hok : closeOk w = true) (hyes : addOk w.Archive w.Round d = true) : FnAt Tryz.prog 20 [.agg (DWorld.e w), .one (L eI []), .agg (DDatabase.e d)] [.agg (DWorld.rw (closeW w [] d))] := by
  have hk := hok
  simp only [closeOk, Bool.and_eq_true, decide_eq_true_eq] at hk
  obtain ⟨h1, h2⟩ := hk
  have hS := h.1.1
  have hA := h.2.2.1
  have hrd := worldOk_round h1
  have hlg := fun g => guiltyS_len w g
  have hw : IntKind.i64.wrap ((w.Servers.length : Int) - 1) = (w.Servers.length : Int) - 1 := w64_ok (by omega) (by omega)
  have hpos := addRound_pos hyes
  have eW : closeW w [] d = ⟨w.Rows, (guiltyS w []).map beginS, w.Devices, addRound w.Archive w.Round d, w.Master, w.Seed, IntKind.i64.wrap (w.Round + 1), guiltyR w [], w.Cancelled⟩ := by unfold closeW; rw [hok, if_pos rfl]; rfl
  rw [eW]
  refine fn_of Tryz.func20 rfl (by kernel_rfl) rfl ?_
  all_goals repeat' (first
    | (with_reducible rfl)
    | (conv => whnf
       first
         | refine ⟨_, c_l32Copy w h h8, ?_⟩
         | refine ⟨_, c_sIsValidWorld w h, ?_⟩
         | refine bcase_F (by rw [h1]; rfl) ?_
         | refine bcase_T (by rw [h1]; rfl) ?_
         | refine bcase_F (by rw [decide_eq_false_iff_not]; omega) ?_
         | refine bcase_T (by rfl) ?_
         | refine ⟨_, c_sAddRound w.Archive w.Round d hA ha hd, ?_⟩
         | exact trivial
         | (with_reducible rfl)
         | exact (rfl : (0 : Int) = ((0 : Nat) : Int))
         | exact w64_nat arith
         | refine bcase_T (by first | with_reducible rfl | decide) ?_
         | refine bcase_F (by first | with_reducible rfl | decide) ?_
         | refine bcase_dec (fun _ => ?_) (fun _ => ?_)
         | refine bcase_not ?_
         | refine bcase_intro (fun _ => ?_) (fun _ => ?_)
         | refine ⟨(by with_reducible rfl), ?_⟩
         | refine ⟨congrArg vi ?_, ?_⟩
         | refine ⟨congrArg vb ?_, ?_⟩
         | refine ⟨rfl, ?_⟩
         | refine ⟨(by kernel_rfl : drawOK _ = true), ?_⟩
         | refine Or.inl ?_
         | refine ⟨⟨congrArg (T.int _) ?_, rfl⟩, ?_⟩
         | refine ⟨⟨congrArg T.bool ?_, rfl⟩, ?_⟩
         | refine ⟨⟨rfl, Nat.le_of_ble_eq_true rfl⟩, ?_⟩
         | refine ⟨⟨rfl, rfl⟩, ?_⟩
         | refine ⟨⟨rfl, (by decide)⟩, ?_⟩
         | refine ⟨⟨rfl, ?_⟩, ?_⟩
         | refine ⟨Or.inr rfl, ?_⟩
         | refine ⟨Or.inl rfl, ?_⟩
         | refine ⟨⟨⟨rfl, rfl, rfl⟩, ?_⟩, ?_⟩
         | refine ⟨_, _, rfl, row_get _ _ arith, rfl, ?_⟩
         | refine ⟨Or.inr (by repeat (first | exact trivial | refine ⟨rfl, ?_⟩)), ?_⟩
         | refine ⟨(?_ : _ = ([] : List (List T))), ?_⟩
         | fail))
  conv => whnf
  refine ⟨Nat, fun i => i ≤ 0, fun i => ⟨[(1, vl (([] : List Int).map eI)), (3, .ptr 6 0), (6, .ptr 0 0), (7, .ptr 1 0), (10, vi i)], [(0, .box [.t (I 0), .nil, .nil, .t (I 0), .nil, .t (I 0), .t (I 0), .t (I 0), .nil, .t (I 0)]), (1, .box [.t (I w.Rows), .ref 2, .ref 3, .t (I (addRound w.Archive w.Round d).Rows), .ref 4, .t (I w.Master), .t (I w.Seed), .t (I w.Round), .ref 5, .t (I (w.Cancelled))]), (2, .row true true 5 ((guiltyS w (([] : List Int).take i)).map DServer.e)), (3, .row true true 16 (w.Devices.map DDevice.e)), (4, .row true false 2 ((addRound w.Archive w.Round d).Rounds.map DArchivedRound.e)), (5, .row true true 1 ((guiltyR w (([] : List Int).take i)).map eI)), (6, .box ((DWorld.e w).map .t))], 7⟩, fun i => 0 - i, 0, Nat.zero_le _, sub_at2 [(0, 6, 0), (1, 7, 0), (2, 7, 2), (3, 7, 3), (4, 7, 5), (5, 7, 9), (6, 3, 0)] rfl rfl rfl ?_ ?_, fun i (hi : i ≤ 0) => ?_⟩
  all_goals repeat' (first
    | (with_reducible rfl)
    | (conv => whnf
       first
         | refine bcase_F (by rw [decide_eq_false_iff_not]; (try simp only [List.map_nil, List.length_nil]); omega) ?_
         | exact trivial
         | (with_reducible rfl)
         | exact (rfl : (0 : Int) = ((0 : Nat) : Int))
         | exact w64_nat arith
         | refine bcase_T (by first | with_reducible rfl | decide) ?_
         | refine bcase_F (by first | with_reducible rfl | decide) ?_
         | refine bcase_dec (fun _ => ?_) (fun _ => ?_)
         | refine bcase_not ?_
         | refine bcase_intro (fun _ => ?_) (fun _ => ?_)
         | refine ⟨(by with_reducible rfl), ?_⟩
         | refine ⟨congrArg vi ?_, ?_⟩
         | refine ⟨congrArg vb ?_, ?_⟩
         | refine ⟨rfl, ?_⟩
         | refine ⟨(by kernel_rfl : drawOK _ = true), ?_⟩
         | refine Or.inl ?_
         | refine ⟨⟨congrArg (T.int _) ?_, rfl⟩, ?_⟩
         | refine ⟨⟨congrArg T.bool ?_, rfl⟩, ?_⟩
         | refine ⟨⟨rfl, Nat.le_of_ble_eq_true rfl⟩, ?_⟩
         | refine ⟨⟨rfl, rfl⟩, ?_⟩
         | refine ⟨⟨rfl, (by decide)⟩, ?_⟩
         | refine ⟨⟨rfl, ?_⟩, ?_⟩
         | refine ⟨Or.inr rfl, ?_⟩
         | refine ⟨Or.inl rfl, ?_⟩
         | refine ⟨⟨⟨rfl, rfl, rfl⟩, ?_⟩, ?_⟩
         | refine ⟨_, _, rfl, row_get _ _ arith, rfl, ?_⟩
         | refine ⟨Or.inr (by repeat (first | exact trivial | refine ⟨rfl, ?_⟩)), ?_⟩
         | refine ⟨(?_ : _ = ([] : List (List T))), ?_⟩
         | fail))
  all_goals first
    | (rw [List.length_map]; done)
    | rfl
    | (rw [guiltyS_nil]; done)
    | (rw [guiltyR_nil]; done)
    | exact repl_T' w g arith (by assumption) (by assumption)
    | exact repl_T2 w g arith (by assumption)
    | exact repl_F w g arith (by assumption)
    | exact replR_T w g arith (by assumption)
    | exact replR_F w g arith (by assumption)
    | skip
  conv => whnf
  refine ⟨Nat, fun j => j ≤ w.Servers.length, fun j => ⟨[(3, .ptr 6 0), (6, .ptr 0 0), (7, .ptr 1 0), (11, vi j)], [(0, .box [.t (I 0), .nil, .nil, .t (I 0), .nil, .t (I 0), .t (I 0), .t (I 0), .nil, .t (I 0)]), (1, .box [.t (I w.Rows), .ref 2, .ref 3, .t (I (addRound w.Archive w.Round d).Rows), .ref 4, .t (I w.Master), .t (I w.Seed), .t (I w.Round), .ref 5, .t (I (w.Cancelled))]), (2, .row true true 5 ((((guiltyS w ([] : List Int)).take j).map beginS ++ (guiltyS w ([] : List Int)).drop j).map DServer.e)), (3, .row true true 16 (w.Devices.map DDevice.e)), (4, .row true false 2 ((addRound w.Archive w.Round d).Rounds.map DArchivedRound.e)), (5, .row true true 1 ((guiltyR w ([] : List Int)).map eI)), (6, .box ((DWorld.e w).map .t))], 7⟩, fun j => w.Servers.length - j, 0, Nat.zero_le _, sub_at2 [(0, 6, 0), (1, 7, 0), (2, 7, 2), (3, 7, 3), (4, 7, 5), (5, 7, 9), (6, 3, 0)] rfl rfl rfl ?_ ?_, fun j (hj : j ≤ w.Servers.length) => ?_⟩
  all_goals repeat' (first
    | (with_reducible rfl)
    | (conv => whnf
       first
         | refine ⟨_, c_sBeginRound ((guiltyS w ([] : List Int))[j]'(by first | (rw [guiltyS_len]; omega) | exact beg_lt (by assumption))) (guiltyS_big w _ h.1 _ (List.getElem_mem _)), ?_⟩
         | refine ⟨j, rfl, (by first | (rw [beg_len, guiltyS_len]; omega) | omega), ?_⟩
         | refine ⟨_, beg_row (guiltyS w ([] : List Int)) (by first | (rw [guiltyS_len]; omega) | exact beg_lt (by assumption)), ⟨rfl, Nat.le_of_ble_eq_true rfl⟩, ?_⟩
         | refine ⟨_, beg_row (guiltyS w ([] : List Int)) (by first | (rw [guiltyS_len]; omega) | exact beg_lt (by assumption)), ?_⟩
         | (have hjl := beg_lt (l := guiltyS w ([] : List Int)) (by assumption); rw [guiltyS_len] at hjl; refine ⟨j + 1, ⟨arith, arith⟩, sub_at2 [(0, 6, 0), (1, 7, 0), (2, 7, 2), (3, 7, 3), (4, 7, 5), (5, 7, 9), (6, 3, 0)] rfl rfl rfl ?_ ?_⟩)
         | refine ⟨Or.inr (by rw [List.length_map]; exact hpos), ?_⟩
         | exact trivial
         | (with_reducible rfl)
         | exact (rfl : (0 : Int) = ((0 : Nat) : Int))
         | exact w64_nat arith
         | refine bcase_T (by first | with_reducible rfl | decide) ?_
         | refine bcase_F (by first | with_reducible rfl | decide) ?_
         | refine bcase_dec (fun _ => ?_) (fun _ => ?_)
         | refine bcase_not ?_
         | refine bcase_intro (fun _ => ?_) (fun _ => ?_)
         | refine ⟨(by with_reducible rfl), ?_⟩
         | refine ⟨congrArg vi ?_, ?_⟩
         | refine ⟨congrArg vb ?_, ?_⟩
         | refine ⟨rfl, ?_⟩
         | refine ⟨(by kernel_rfl : drawOK _ = true), ?_⟩
         | refine Or.inl ?_
         | refine ⟨⟨congrArg (T.int _) ?_, rfl⟩, ?_⟩
         | refine ⟨⟨congrArg T.bool ?_, rfl⟩, ?_⟩
         | refine ⟨⟨rfl, Nat.le_of_ble_eq_true rfl⟩, ?_⟩
         | refine ⟨⟨rfl, rfl⟩, ?_⟩
         | refine ⟨⟨rfl, (by decide)⟩, ?_⟩
         | refine ⟨⟨rfl, ?_⟩, ?_⟩
         | refine ⟨Or.inr rfl, ?_⟩
         | refine ⟨Or.inl rfl, ?_⟩
         | refine ⟨⟨⟨rfl, rfl, rfl⟩, ?_⟩, ?_⟩
         | refine ⟨_, _, rfl, row_get _ _ arith, rfl, ?_⟩
         | refine ⟨Or.inr (by repeat (first | exact trivial | refine ⟨rfl, ?_⟩)), ?_⟩
         | refine ⟨(?_ : _ = ([] : List (List T))), ?_⟩
         | fail))
  all_goals first
    | (rw [List.length_map, guiltyS_len]; done)
    | (rw [take_all ([] : List Int) arith]; done)
    | (rw [take_all ([] : List Int) arith]; exact beg_0 _)
    | exact beg_0 _
    | (rw [List.take_nil]; done)
    | (rw [List.take_nil]; exact beg_0 _)
    | exact beg_set (guiltyS w ([] : List Int)) (by first | (rw [guiltyS_len]; omega) | exact beg_lt (by assumption))
    | exact beg_end (guiltyS w ([] : List Int)) (by first | (rw [guiltyS_len]; omega) | exact beg_ge (by assumption))
    | rfl
    | skip
end Go.Proofs.YtcoipmjboiegoaaGreat
