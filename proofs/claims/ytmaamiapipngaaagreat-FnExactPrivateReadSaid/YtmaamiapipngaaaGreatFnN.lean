/-
  Contracts: streams, ciphers, checks of cells.
  Conditions: none.
-/
import Derived.Test.YtmaamiapipngaaaGreatFnL
import Derived.Test.YtmaamiapipngaaaGreatFnK
import Derived.Test.YtmaamiapipngaaaGreatVmAc
namespace Go.Proofs.YtmaamiapipngaaaGreat
set_option maxHeartbeats 4000000
set_option maxRecDepth 20000
open Go.Vm Go.RowKit
attribute [local irreducible] FnAt MutAt InAt JAt CurAt FnE CurE RegAt

theorem strm_run (s : Int) {i : Nat} (h : i ≤ 400) : IntKind.u8.wrap (IntKind.i64.wrap ((child s (IntKind.i64.wrap (100 + (i : Int)))).tdiv 256)) = ((Vm.byteOf (child s (100 + (i : Int)) / 256)).toNat : Int) := by
  have hr := child_range s (100 + (i : Int))
  rw [w64_ok (n := 100 + (i : Int)) (by omega) (by omega), Int.tdiv_eq_ediv_of_nonneg hr.1, w64_ok (by omega) (by omega), u8_wrap]
theorem stream_T {s n : Int} (h : inR n 0 400 = true) : stream s n = strm s n.toNat := by unfold stream; rw [if_pos (inR_iff.1 h)]
theorem stream_F {s n : Int} (h : inR n 0 400 = false) : stream s n = [] := by unfold stream; rw [if_neg (inR_not.1 h)]
theorem part_getU {f : Nat → UInt8 → UInt8} {b : List UInt8} {i : Nat} (h : i < b.length) : ((Vm.part f b i).map eU)[i]? = some (eU b[i]) := by rw [List.getElem?_map, part_get h]; rfl
theorem part_setU {f : Nat → UInt8 → UInt8} {b : List UInt8} {i : Nat} (h : i < b.length) : ((Vm.part f b i).map eU).set i (eU (f i b[i])) = (Vm.part f b (i + 1)).map eU := by rw [← part_set h, List.map_set]
theorem encB_take (k : Int) (b : List UInt8) {i : Nat} (h : i < b.length) : (encB k b).take (i + 1) = (encB k b).take i ++ [Vm.byteOf ((b[i].toNat : Int) + khash k [(i : Int)])] := by
  rw [List.take_succ_eq_append_getElem (by rw [encB_len]; exact h)]
  unfold encB
  simp
theorem decB_take (k : Int) (b : List UInt8) {i : Nat} (h : i < b.length) : (decB k b).take (i + 1) = (decB k b).take i ++ [Vm.byteOf ((b[i].toNat : Int) - khash k [(i : Int)])] := by
  rw [List.take_succ_eq_append_getElem (by rw [decB_len]; exact h)]
  unfold decB
  simp
theorem encB_part (k : Int) (b : List UInt8) {i : Nat} (h : b.length ≤ i) : Vm.part (fun i x => Vm.byteOf ((x.toNat : Int) + khash k [(i : Int)])) b i = encB k b := by rw [part_all h]; unfold encB; rfl
theorem decB_part (k : Int) (b : List UInt8) {i : Nat} (h : b.length ≤ i) : Vm.part (fun i x => Vm.byteOf ((x.toNat : Int) - khash k [(i : Int)])) b i = decB k b := by rw [part_all h]; unfold decB; rfl
attribute [local irreducible] Vm.part Vm.byteOf
def ckList (c : Int) (d : List UInt8) (i : Nat) : List Int := 71 :: c :: (d.take i).map fun x => (x.toNat : Int)
theorem ckList_succ (c : Int) (d : List UInt8) {i : Nat} (h : i < d.length) : ckList c d (i + 1) = ckList c d i ++ [(d[i].toNat : Int)] := by
  simp only [ckList, map_take_succ _ _ h, List.cons_append]
theorem ckList_len (c : Int) (d : List UInt8) (i : Nat) : (ckList c d i).length ≤ d.length + 2 := by simp [ckList]; omega
theorem ck_all (k c : Int) (d : List UInt8) {i : Nat} (h : d.length ≤ i) : khash k (ckList c d i) = cellCheck k c d := by unfold ckList cellCheck; rw [List.take_of_length_le h]
end Go.Proofs.YtmaamiapipngaaaGreat
