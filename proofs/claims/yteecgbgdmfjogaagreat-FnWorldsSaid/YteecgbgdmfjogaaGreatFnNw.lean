/-
  Contracts: new servers, new archives, new worlds.
  Conditions: none.
-/
import Derived.Test.YteecgbgdmfjogaaGreatFnEq
import Derived.Test.YteecgbgdmfjogaaGreatFnWs
import Derived.Test.YteecgbgdmfjogaaGreatFnO
namespace Go.Proofs.YteecgbgdmfjogaaGreat
set_option maxHeartbeats 4000000
set_option maxRecDepth 20000
open Go.Vm Go.RowKit
attribute [local irreducible] FnAt MutAt InAt JAt CurAt FnE CurE RegAt

def newServer (id n b : Int) : DServer := if inR id 0 3 && inR n 1 64 && inR b 0 3 then ⟨id, n, 0, [], b⟩ else ⟨0, 0, 0, [], 0⟩
theorem newServer_sub (id n b : Int) : (newServer id n b).Received = [] := by unfold newServer; split <;> rfl
theorem c_NewServer (id n b : Int) : FnAt Tryz.prog 26 [.one (I id), .one (I n), .one (I b)] [.agg (DServer.r (newServer id n b))] := by
  refine fn_of Tryz.func26 rfl (by kernel_rfl) rfl ?_
  all_goals repeat' (first | (with_reducible rfl) | ((conv => whnf); first | exact trivial | (with_reducible rfl) | exact (rfl : (0 : Int) = ((0 : Nat) : Int)) | exact w64_nat arith | refine bcase_T (by first | with_reducible rfl | decide) ?_ | refine bcase_F (by first | with_reducible rfl | decide) ?_ | refine bcase_dec (fun _ => ?_) (fun _ => ?_) | refine bcase_not ?_ | refine bcase_intro (fun _ => ?_) (fun _ => ?_) | refine ⟨(by with_reducible rfl), ?_⟩ | refine ⟨congrArg vi ?_, ?_⟩ | refine ⟨congrArg vb ?_, ?_⟩ | refine ⟨rfl, ?_⟩ | refine ⟨(by kernel_rfl : drawOK _ = true), ?_⟩ | refine Or.inl ?_ | refine ⟨⟨congrArg (T.int _) ?_, rfl⟩, ?_⟩ | refine ⟨⟨congrArg T.bool ?_, rfl⟩, ?_⟩ | refine ⟨⟨rfl, Nat.le_of_ble_eq_true rfl⟩, ?_⟩ | refine ⟨⟨rfl, rfl⟩, ?_⟩ | refine ⟨⟨rfl, (by decide)⟩, ?_⟩ | refine ⟨⟨rfl, ?_⟩, ?_⟩ | refine ⟨Or.inr rfl, ?_⟩ | refine ⟨Or.inl rfl, ?_⟩ | refine ⟨⟨⟨rfl, rfl, rfl⟩, ?_⟩, ?_⟩ | refine ⟨_, _, rfl, row_get _ _ arith, rfl, ?_⟩ | refine ⟨Or.inr (by repeat (first | exact trivial | refine ⟨rfl, ?_⟩)), ?_⟩ | refine ⟨(?_ : _ = ([] : List (List T))), ?_⟩ | refine ⟨_, c_InRange _ _ _, ?_⟩ | fail))
  all_goals simp_all [newServer]
theorem c_sNewServer (id n b : Int) : FnAt Tryz.prog 45 [.one (I id), .one (I n), .one (I b)] [.agg (DServer.r (newServer id n b))] := by
  refine fn_of Tryz.func45 rfl (by kernel_rfl) rfl ?_
  all_goals repeat' (first | (with_reducible rfl) | ((conv => whnf); first | exact trivial | (with_reducible rfl) | exact (rfl : (0 : Int) = ((0 : Nat) : Int)) | exact w64_nat arith | refine bcase_T (by first | with_reducible rfl | decide) ?_ | refine bcase_F (by first | with_reducible rfl | decide) ?_ | refine bcase_dec (fun _ => ?_) (fun _ => ?_) | refine bcase_not ?_ | refine bcase_intro (fun _ => ?_) (fun _ => ?_) | refine ⟨(by with_reducible rfl), ?_⟩ | refine ⟨congrArg vi ?_, ?_⟩ | refine ⟨congrArg vb ?_, ?_⟩ | refine ⟨rfl, ?_⟩ | refine ⟨(by kernel_rfl : drawOK _ = true), ?_⟩ | refine Or.inl ?_ | refine ⟨⟨congrArg (T.int _) ?_, rfl⟩, ?_⟩ | refine ⟨⟨congrArg T.bool ?_, rfl⟩, ?_⟩ | refine ⟨⟨rfl, Nat.le_of_ble_eq_true rfl⟩, ?_⟩ | refine ⟨⟨rfl, rfl⟩, ?_⟩ | refine ⟨⟨rfl, (by decide)⟩, ?_⟩ | refine ⟨⟨rfl, ?_⟩, ?_⟩ | refine ⟨Or.inr rfl, ?_⟩ | refine ⟨Or.inl rfl, ?_⟩ | refine ⟨⟨⟨rfl, rfl, rfl⟩, ?_⟩, ?_⟩ | refine ⟨_, _, rfl, row_get _ _ arith, rfl, ?_⟩ | refine ⟨Or.inr (by repeat (first | exact trivial | refine ⟨rfl, ?_⟩)), ?_⟩ | refine ⟨(?_ : _ = ([] : List (List T))), ?_⟩ | refine ⟨_, c_l1In _ _ _, ?_⟩ | fail))
  all_goals simp_all [newServer]
def newArch (n : Int) : DArchive := ⟨if inR n 1 64 then n else 1, []⟩
theorem c_NewArchive (n : Int) : FnAt Tryz.prog 23 [.one (I n)] [.agg (DArchive.r (newArch n))] := by
  refine fn_of Tryz.func23 rfl (by kernel_rfl) rfl ?_
  all_goals repeat' (first | (with_reducible rfl) | ((conv => whnf); first | exact trivial | (with_reducible rfl) | exact (rfl : (0 : Int) = ((0 : Nat) : Int)) | exact w64_nat arith | refine bcase_T (by first | with_reducible rfl | decide) ?_ | refine bcase_F (by first | with_reducible rfl | decide) ?_ | refine bcase_dec (fun _ => ?_) (fun _ => ?_) | refine bcase_not ?_ | refine bcase_intro (fun _ => ?_) (fun _ => ?_) | refine ⟨(by with_reducible rfl), ?_⟩ | refine ⟨congrArg vi ?_, ?_⟩ | refine ⟨congrArg vb ?_, ?_⟩ | refine ⟨rfl, ?_⟩ | refine ⟨(by kernel_rfl : drawOK _ = true), ?_⟩ | refine Or.inl ?_ | refine ⟨⟨congrArg (T.int _) ?_, rfl⟩, ?_⟩ | refine ⟨⟨congrArg T.bool ?_, rfl⟩, ?_⟩ | refine ⟨⟨rfl, Nat.le_of_ble_eq_true rfl⟩, ?_⟩ | refine ⟨⟨rfl, rfl⟩, ?_⟩ | refine ⟨⟨rfl, (by decide)⟩, ?_⟩ | refine ⟨⟨rfl, ?_⟩, ?_⟩ | refine ⟨Or.inr rfl, ?_⟩ | refine ⟨Or.inl rfl, ?_⟩ | refine ⟨⟨⟨rfl, rfl, rfl⟩, ?_⟩, ?_⟩ | refine ⟨_, _, rfl, row_get _ _ arith, rfl, ?_⟩ | refine ⟨Or.inr (by repeat (first | exact trivial | refine ⟨rfl, ?_⟩)), ?_⟩ | refine ⟨(?_ : _ = ([] : List (List T))), ?_⟩ | refine ⟨_, c_InRange _ _ _, ?_⟩ | fail))
  all_goals simp_all [newArch]
theorem c_sNewArchive (n : Int) : FnAt Tryz.prog 42 [.one (I n)] [.agg (DArchive.r (newArch n))] := by
  refine fn_of Tryz.func42 rfl (by kernel_rfl) rfl ?_
  all_goals repeat' (first | (with_reducible rfl) | ((conv => whnf); first | exact trivial | (with_reducible rfl) | exact (rfl : (0 : Int) = ((0 : Nat) : Int)) | exact w64_nat arith | refine bcase_T (by first | with_reducible rfl | decide) ?_ | refine bcase_F (by first | with_reducible rfl | decide) ?_ | refine bcase_dec (fun _ => ?_) (fun _ => ?_) | refine bcase_not ?_ | refine bcase_intro (fun _ => ?_) (fun _ => ?_) | refine ⟨(by with_reducible rfl), ?_⟩ | refine ⟨congrArg vi ?_, ?_⟩ | refine ⟨congrArg vb ?_, ?_⟩ | refine ⟨rfl, ?_⟩ | refine ⟨(by kernel_rfl : drawOK _ = true), ?_⟩ | refine Or.inl ?_ | refine ⟨⟨congrArg (T.int _) ?_, rfl⟩, ?_⟩ | refine ⟨⟨congrArg T.bool ?_, rfl⟩, ?_⟩ | refine ⟨⟨rfl, Nat.le_of_ble_eq_true rfl⟩, ?_⟩ | refine ⟨⟨rfl, rfl⟩, ?_⟩ | refine ⟨⟨rfl, (by decide)⟩, ?_⟩ | refine ⟨⟨rfl, ?_⟩, ?_⟩ | refine ⟨Or.inr rfl, ?_⟩ | refine ⟨Or.inl rfl, ?_⟩ | refine ⟨⟨⟨rfl, rfl, rfl⟩, ?_⟩, ?_⟩ | refine ⟨_, _, rfl, row_get _ _ arith, rfl, ?_⟩ | refine ⟨Or.inr (by repeat (first | exact trivial | refine ⟨rfl, ?_⟩)), ?_⟩ | refine ⟨(?_ : _ = ([] : List (List T))), ?_⟩ | refine ⟨_, c_l1In _ _ _, ?_⟩ | fail))
  all_goals simp_all [newArch]
attribute [local irreducible] newServer newClient bits
def newServ (n : Int) (i : Nat) : DServer := newServer i n 0
def newCl (s : Int) (i : Nat) : DClient := newClient i (bits .xor .i64 (i : Int) 1) (orOne (khash s [199, IntKind.i64.wrap ((i : Int).tdiv 2)])) (khash s [211, (i : Int)])
def newDev (s : Int) (i : Nat) : DDevice := ⟨newCl s i, newCl s i⟩
theorem newCl_big (s : Int) (i : Nat) : bigC (newCl s i) := by
  have h := newClient_sub i (bits .xor .i64 (i : Int) 1) (orOne (khash s [199, IntKind.i64.wrap ((i : Int).tdiv 2)])) (khash s [211, (i : Int)])
  unfold newCl
  refine ⟨?_, ?_⟩
  · rw [h.1]; simp
  · rw [h.2]; simp
def newWOk (n s p : Int) : Bool := inR n 1 64 && inR s 2 4 && inR p 1 4
def newWorld (n s p sd : Int) : DWorld := if newWOk n s p then ⟨n, (List.range s.toNat).map (newServ n), (List.range (2 * p).toNat).map (newDev sd), newArch n, orOne (khash sd [197]), sd, 0, [], 0⟩ else ⟨0, [], [], ⟨0, []⟩, 0, 0, 0, [], 0⟩
attribute [local irreducible] newServ newDev newCl
theorem c_NewWorld (n s p sd : Int) : FnAt Tryz.prog 6 [.one (I n), .one (I s), .one (I p), .one (I sd)] [.agg (DWorld.r (newWorld n s p sd))] := by
  cases h1 : inR n 1 64 with
  | false =>
    have e : newWorld n s p sd = ⟨0, [], [], ⟨0, []⟩, 0, 0, 0, [], 0⟩ := by unfold newWorld newWOk; rw [h1]; rfl
    rw [e]
    refine fn_of Tryz.func6 rfl (by kernel_rfl) rfl ?_
    all_goals repeat' (first | (with_reducible rfl) | ((conv => whnf); first | refine ⟨_, c_InRange _ _ _, ?_⟩ | refine bcase_T (by rw [h1]; rfl) ?_ | exact trivial | (with_reducible rfl) | exact (rfl : (0 : Int) = ((0 : Nat) : Int)) | exact w64_nat arith | refine bcase_T (by first | with_reducible rfl | decide) ?_ | refine bcase_F (by first | with_reducible rfl | decide) ?_ | refine bcase_dec (fun _ => ?_) (fun _ => ?_) | refine bcase_not ?_ | refine bcase_intro (fun _ => ?_) (fun _ => ?_) | refine ⟨(by with_reducible rfl), ?_⟩ | refine ⟨congrArg vi ?_, ?_⟩ | refine ⟨congrArg vb ?_, ?_⟩ | refine ⟨rfl, ?_⟩ | refine ⟨(by kernel_rfl : drawOK _ = true), ?_⟩ | refine Or.inl ?_ | refine ⟨⟨congrArg (T.int _) ?_, rfl⟩, ?_⟩ | refine ⟨⟨congrArg T.bool ?_, rfl⟩, ?_⟩ | refine ⟨⟨rfl, Nat.le_of_ble_eq_true rfl⟩, ?_⟩ | refine ⟨⟨rfl, rfl⟩, ?_⟩ | refine ⟨⟨rfl, (by decide)⟩, ?_⟩ | refine ⟨⟨rfl, ?_⟩, ?_⟩ | refine ⟨Or.inr rfl, ?_⟩ | refine ⟨Or.inl rfl, ?_⟩ | refine ⟨⟨⟨rfl, rfl, rfl⟩, ?_⟩, ?_⟩ | refine ⟨_, _, rfl, row_get _ _ arith, rfl, ?_⟩ | refine ⟨Or.inr (by repeat (first | exact trivial | refine ⟨rfl, ?_⟩)), ?_⟩ | refine ⟨(?_ : _ = ([] : List (List T))), ?_⟩ | fail))
    all_goals rfl
  | true =>
  cases h2 : inR s 2 4 with
  | false =>
    have e : newWorld n s p sd = ⟨0, [], [], ⟨0, []⟩, 0, 0, 0, [], 0⟩ := by unfold newWorld newWOk; rw [h1, h2]; rfl
    rw [e]
    refine fn_of Tryz.func6 rfl (by kernel_rfl) rfl ?_
    all_goals repeat' (first | (with_reducible rfl) | ((conv => whnf); first | refine ⟨_, c_InRange _ _ _, ?_⟩ | refine ⟨_, c_isServerCount _, ?_⟩ | refine bcase_F (by rw [h1]; rfl) ?_ | refine bcase_T (by rw [h2]; rfl) ?_ | exact trivial | (with_reducible rfl) | exact (rfl : (0 : Int) = ((0 : Nat) : Int)) | exact w64_nat arith | refine bcase_T (by first | with_reducible rfl | decide) ?_ | refine bcase_F (by first | with_reducible rfl | decide) ?_ | refine bcase_dec (fun _ => ?_) (fun _ => ?_) | refine bcase_not ?_ | refine bcase_intro (fun _ => ?_) (fun _ => ?_) | refine ⟨(by with_reducible rfl), ?_⟩ | refine ⟨congrArg vi ?_, ?_⟩ | refine ⟨congrArg vb ?_, ?_⟩ | refine ⟨rfl, ?_⟩ | refine ⟨(by kernel_rfl : drawOK _ = true), ?_⟩ | refine Or.inl ?_ | refine ⟨⟨congrArg (T.int _) ?_, rfl⟩, ?_⟩ | refine ⟨⟨congrArg T.bool ?_, rfl⟩, ?_⟩ | refine ⟨⟨rfl, Nat.le_of_ble_eq_true rfl⟩, ?_⟩ | refine ⟨⟨rfl, rfl⟩, ?_⟩ | refine ⟨⟨rfl, (by decide)⟩, ?_⟩ | refine ⟨⟨rfl, ?_⟩, ?_⟩ | refine ⟨Or.inr rfl, ?_⟩ | refine ⟨Or.inl rfl, ?_⟩ | refine ⟨⟨⟨rfl, rfl, rfl⟩, ?_⟩, ?_⟩ | refine ⟨_, _, rfl, row_get _ _ arith, rfl, ?_⟩ | refine ⟨Or.inr (by repeat (first | exact trivial | refine ⟨rfl, ?_⟩)), ?_⟩ | refine ⟨(?_ : _ = ([] : List (List T))), ?_⟩ | fail))
    all_goals rfl
  | true =>
  cases h3 : inR p 1 4 with
  | false =>
    have e : newWorld n s p sd = ⟨0, [], [], ⟨0, []⟩, 0, 0, 0, [], 0⟩ := by unfold newWorld newWOk; rw [h1, h2, h3]; rfl
    rw [e]
    refine fn_of Tryz.func6 rfl (by kernel_rfl) rfl ?_
    all_goals repeat' (first | (with_reducible rfl) | ((conv => whnf); first | refine ⟨_, c_InRange _ _ _, ?_⟩ | refine ⟨_, c_isServerCount _, ?_⟩ | refine bcase_F (by rw [h1]; rfl) ?_ | refine bcase_F (by rw [h2]; rfl) ?_ | refine bcase_T (by rw [h3]; rfl) ?_ | exact trivial | (with_reducible rfl) | exact (rfl : (0 : Int) = ((0 : Nat) : Int)) | exact w64_nat arith | refine bcase_T (by first | with_reducible rfl | decide) ?_ | refine bcase_F (by first | with_reducible rfl | decide) ?_ | refine bcase_dec (fun _ => ?_) (fun _ => ?_) | refine bcase_not ?_ | refine bcase_intro (fun _ => ?_) (fun _ => ?_) | refine ⟨(by with_reducible rfl), ?_⟩ | refine ⟨congrArg vi ?_, ?_⟩ | refine ⟨congrArg vb ?_, ?_⟩ | refine ⟨rfl, ?_⟩ | refine ⟨(by kernel_rfl : drawOK _ = true), ?_⟩ | refine Or.inl ?_ | refine ⟨⟨congrArg (T.int _) ?_, rfl⟩, ?_⟩ | refine ⟨⟨congrArg T.bool ?_, rfl⟩, ?_⟩ | refine ⟨⟨rfl, Nat.le_of_ble_eq_true rfl⟩, ?_⟩ | refine ⟨⟨rfl, rfl⟩, ?_⟩ | refine ⟨⟨rfl, (by decide)⟩, ?_⟩ | refine ⟨⟨rfl, ?_⟩, ?_⟩ | refine ⟨Or.inr rfl, ?_⟩ | refine ⟨Or.inl rfl, ?_⟩ | refine ⟨⟨⟨rfl, rfl, rfl⟩, ?_⟩, ?_⟩ | refine ⟨_, _, rfl, row_get _ _ arith, rfl, ?_⟩ | refine ⟨Or.inr (by repeat (first | exact trivial | refine ⟨rfl, ?_⟩)), ?_⟩ | refine ⟨(?_ : _ = ([] : List (List T))), ?_⟩ | fail))
    all_goals rfl
  | true =>
  have g2 := inR_iff.1 h2
  have g3 := inR_iff.1 h3
  have e : newWorld n s p sd = ⟨n, (List.range s.toNat).map (newServ n), (List.range (2 * p).toNat).map (newDev sd), newArch n, orOne (khash sd [197]), sd, 0, [], 0⟩ := by unfold newWorld newWOk; rw [h1, h2, h3]; rfl
  rw [e]
  obtain ⟨s, rfl⟩ := Int.eq_ofNat_of_zero_le (show 0 ≤ s by omega)
  obtain ⟨p, rfl⟩ := Int.eq_ofNat_of_zero_le (show 0 ≤ p by omega)
  have ea : newArch n = ⟨n, []⟩ := by unfold newArch; rw [if_pos h1]
  have es : (s : Int).toNat = s := Int.toNat_natCast s
  have ep : (2 * (p : Int)).toNat = 2 * p := by omega
  rw [es, ep, ea]
  have hA := c_NewArchive n
  rw [ea] at hA
  have hmul : IntKind.i64.wrap (2 * (p : Int)) = ((2 * p : Nat) : Int) := by rw [w64_ok (by omega) (by omega)]; omega
  have hlr0 : ∀ i, (List.range i).length = i := fun i => List.length_range
  have hN : ∀ j : Nat, FnAt Tryz.prog 28 [.one (I (j : Int)), .one (I (bits .xor .i64 (j : Int) 1)), .one (I (orOne (khash sd [199, IntKind.i64.wrap ((j : Int).tdiv 2)]))), .one (I (khash sd [211, (j : Int)]))] [.agg (DClient.r (newCl sd j))] := fun j => by
    unfold newCl
    exact c_NewClient _ _ _ _
  refine fn_of Tryz.func6 rfl (by kernel_rfl) rfl ?_
  all_goals repeat' (first | (with_reducible rfl) | ((conv => whnf); first | refine ⟨_, c_InRange _ _ _, ?_⟩ | refine ⟨_, c_isServerCount _, ?_⟩ | refine bcase_F (by rw [h1]; rfl) ?_ | refine bcase_F (by rw [h2]; rfl) ?_ | refine bcase_F (by rw [h3]; rfl) ?_ | refine ⟨_, hA, ?_⟩ | refine ⟨_, c_KeyedHash sd [197] (by simp), ?_⟩ | refine ⟨_, c_orOne _, ?_⟩ | exact trivial | (with_reducible rfl) | exact (rfl : (0 : Int) = ((0 : Nat) : Int)) | exact w64_nat arith | refine bcase_T (by first | with_reducible rfl | decide) ?_ | refine bcase_F (by first | with_reducible rfl | decide) ?_ | refine bcase_dec (fun _ => ?_) (fun _ => ?_) | refine bcase_not ?_ | refine bcase_intro (fun _ => ?_) (fun _ => ?_) | refine ⟨(by with_reducible rfl), ?_⟩ | refine ⟨congrArg vi ?_, ?_⟩ | refine ⟨congrArg vb ?_, ?_⟩ | refine ⟨rfl, ?_⟩ | refine ⟨(by kernel_rfl : drawOK _ = true), ?_⟩ | refine Or.inl ?_ | refine ⟨⟨congrArg (T.int _) ?_, rfl⟩, ?_⟩ | refine ⟨⟨congrArg T.bool ?_, rfl⟩, ?_⟩ | refine ⟨⟨rfl, Nat.le_of_ble_eq_true rfl⟩, ?_⟩ | refine ⟨⟨rfl, rfl⟩, ?_⟩ | refine ⟨⟨rfl, (by decide)⟩, ?_⟩ | refine ⟨⟨rfl, ?_⟩, ?_⟩ | refine ⟨Or.inr rfl, ?_⟩ | refine ⟨Or.inl rfl, ?_⟩ | refine ⟨⟨⟨rfl, rfl, rfl⟩, ?_⟩, ?_⟩ | refine ⟨_, _, rfl, row_get _ _ arith, rfl, ?_⟩ | refine ⟨Or.inr (by repeat (first | exact trivial | refine ⟨rfl, ?_⟩)), ?_⟩ | refine ⟨(?_ : _ = ([] : List (List T))), ?_⟩ | fail))
  conv => whnf
  refine ⟨Nat, fun i => i ≤ s, fun i => ⟨[(0, vi n), (2, vi p), (3, vi sd), (8, .ptr 0 0), (9, .ptr 1 0), (35, vi s), (36, vi i)], [(0, .box [.t (I 0), .nil, .nil, .t (I 0), .nil, .t (I 0), .t (I 0), .t (I 0), .nil, .t (I 0)]), (1, .box [.t (I n), .ref 2, .nil, .t (I n), .ref 3, .t (I (orOne (khash sd [197]))), .t (I sd), .t (I 0), .nil, .t (I 0)]), (2, .row true true 5 (((List.range i).map (newServ n)).map DServer.e)), (3, .row true true 2 [])], 4⟩, fun i => s - i, 0, Nat.zero_le _, sub_at2 [(0, 8, 0), (1, 9, 0), (2, 9, 2), (3, 9, 5)] rfl rfl rfl ?_ ?_, fun i (hi : i ≤ s) => ?_⟩
  all_goals repeat' (first | (with_reducible rfl) | ((conv => whnf); first | exact trivial | (with_reducible rfl) | exact (rfl : (0 : Int) = ((0 : Nat) : Int)) | exact w64_nat arith | refine bcase_T (by first | with_reducible rfl | decide) ?_ | refine bcase_F (by first | with_reducible rfl | decide) ?_ | refine bcase_dec (fun _ => ?_) (fun _ => ?_) | refine bcase_not ?_ | refine bcase_intro (fun _ => ?_) (fun _ => ?_) | refine ⟨(by with_reducible rfl), ?_⟩ | refine ⟨congrArg vi ?_, ?_⟩ | refine ⟨congrArg vb ?_, ?_⟩ | refine ⟨rfl, ?_⟩ | refine ⟨(by kernel_rfl : drawOK _ = true), ?_⟩ | refine Or.inl ?_ | refine ⟨⟨congrArg (T.int _) ?_, rfl⟩, ?_⟩ | refine ⟨⟨congrArg T.bool ?_, rfl⟩, ?_⟩ | refine ⟨⟨rfl, Nat.le_of_ble_eq_true rfl⟩, ?_⟩ | refine ⟨⟨rfl, rfl⟩, ?_⟩ | refine ⟨⟨rfl, (by decide)⟩, ?_⟩ | refine ⟨⟨rfl, ?_⟩, ?_⟩ | refine ⟨Or.inr rfl, ?_⟩ | refine ⟨Or.inl rfl, ?_⟩ | refine ⟨⟨⟨rfl, rfl, rfl⟩, ?_⟩, ?_⟩ | refine ⟨_, _, rfl, row_get _ _ arith, rfl, ?_⟩ | refine ⟨Or.inr (by repeat (first | exact trivial | refine ⟨rfl, ?_⟩)), ?_⟩ | refine ⟨(?_ : _ = ([] : List (List T))), ?_⟩ | refine ⟨_, c_NewServer i n 0, ?_⟩ | (have hlr := hlr0 i; refine ⟨⟨bnd, bnd⟩, ?_⟩) | refine ⟨i + 1, ⟨arith, arith⟩, sub_at2 [(0, 8, 0), (1, 9, 0), (2, 9, 2), (3, 9, 5)] rfl rfl rfl ?_ ?_⟩ | fail))
  all_goals first
    | (rw [range_take, List.map_append]; unfold newServ; rfl)
    | rfl
    | (simp; done)
    | skip
  conv => whnf
  have e1 : i = s := by omega
  subst e1
  refine ⟨Nat, fun j => j ≤ 2 * p, fun j => ⟨[(3, vi sd), (8, .ptr 0 0), (9, .ptr 1 0), (49, vi (2 * p : Nat)), (50, vi j)], [(0, .box [.t (I 0), .nil, .nil, .t (I 0), .nil, .t (I 0), .t (I 0), .t (I 0), .nil, .t (I 0)]), (1, .box [.t (I n), .ref 2, .ref 3, .t (I n), .ref 4, .t (I (orOne (khash sd [197]))), .t (I sd), .t (I 0), .nil, .t (I 0)]), (2, .row true true 5 (((List.range i).map (newServ n)).map DServer.e)), (3, .row true true 16 (((List.range j).map (newDev sd)).map DDevice.e)), (4, .row true true 2 [])], 5⟩, fun j => 2 * p - j, 0, Nat.zero_le _, sub_at2 [(0, 8, 0), (1, 9, 0), (2, 9, 2), (3, 9, 3), (4, 9, 5)] rfl rfl rfl ?_ ?_, fun j (hj : j ≤ 2 * p) => ?_⟩
  all_goals repeat' (first | (with_reducible rfl) | ((conv => whnf); first | exact trivial | (with_reducible rfl) | exact (rfl : (0 : Int) = ((0 : Nat) : Int)) | exact w64_nat arith | refine bcase_T (by first | with_reducible rfl | decide) ?_ | refine bcase_F (by first | with_reducible rfl | decide) ?_ | refine bcase_dec (fun _ => ?_) (fun _ => ?_) | refine bcase_not ?_ | refine bcase_intro (fun _ => ?_) (fun _ => ?_) | refine ⟨(by with_reducible rfl), ?_⟩ | refine ⟨congrArg vi ?_, ?_⟩ | refine ⟨congrArg vb ?_, ?_⟩ | refine ⟨rfl, ?_⟩ | refine ⟨(by kernel_rfl : drawOK _ = true), ?_⟩ | refine Or.inl ?_ | refine ⟨⟨congrArg (T.int _) ?_, rfl⟩, ?_⟩ | refine ⟨⟨congrArg T.bool ?_, rfl⟩, ?_⟩ | refine ⟨⟨rfl, Nat.le_of_ble_eq_true rfl⟩, ?_⟩ | refine ⟨⟨rfl, rfl⟩, ?_⟩ | refine ⟨⟨rfl, (by decide)⟩, ?_⟩ | refine ⟨⟨rfl, ?_⟩, ?_⟩ | refine ⟨Or.inr rfl, ?_⟩ | refine ⟨Or.inl rfl, ?_⟩ | refine ⟨⟨⟨rfl, rfl, rfl⟩, ?_⟩, ?_⟩ | refine ⟨_, _, rfl, row_get _ _ arith, rfl, ?_⟩ | refine ⟨Or.inr (by repeat (first | exact trivial | refine ⟨rfl, ?_⟩)), ?_⟩ | refine ⟨(?_ : _ = ([] : List (List T))), ?_⟩ | refine ⟨(by decide : (2 : Int) ≠ 0), ?_⟩ | refine ⟨_, c_KeyedHash sd [199, IntKind.i64.wrap ((j : Int).tdiv 2)] (by simp), ?_⟩ | refine ⟨_, c_KeyedHash sd [211, (j : Int)] (by simp), ?_⟩ | refine ⟨_, c_orOne _, ?_⟩ | refine ⟨_, hN j, ?_⟩ | refine ⟨_, c_NewDevice (newCl sd j) (newCl_big sd j), ?_⟩ | (have hlr := hlr0 j; refine ⟨⟨bnd, bnd⟩, ?_⟩) | refine ⟨j + 1, ⟨arith, arith⟩, sub_at2 [(0, 8, 0), (1, 9, 0), (2, 9, 2), (3, 9, 3), (4, 9, 5)] rfl rfl rfl ?_ ?_⟩ | fail))
  all_goals first
    | exact hmul
    | (rw [range_take, List.map_append]; unfold newDev; rfl)
    | (have e2 : j = 2 * p := (by omega); subst e2; rfl)
    | rfl
    | (simp; done)
    | skip
end Go.Proofs.YteecgbgdmfjogaaGreat
