/-
  The table of this seat's types for the program logic, written by a program of ours off the translation; each entry is held against the program by the kernel.
  Conditions: none.
-/
import Derived.Test.YtkjheelgilffiaaProg
import Derived.Test.YtkjheelgilffiaaVmP
import Derived.Test.YtkjheelgilffiaaVmU
namespace Go.Proofs.Ytkjheelgilffiaa
open Go.Vm Go.RowKit

def ti2 : TI := { size := 1, bytes := 8, agg := false, k := .int .i64, zero := [.t (.int .i64 0)] }
theorem ti2_ok : TIok Try.prog 2 ti2 := TIok.mk_ (z := .int .i64 0) (by kernel_rfl) rfl rfl Try.underlying2 rfl rfl (by kernel_rfl) (fun h => by cases h)
def ti3 : TI := { size := 1, bytes := 8, agg := false, k := .int .i64, zero := [.t (.int .i64 0)] }
theorem ti3_ok : TIok Try.prog 3 ti3 := TIok.mk_ (z := .int .i64 0) (by kernel_rfl) rfl rfl Try.underlying3 rfl rfl (by kernel_rfl) (fun h => by cases h)
def ti4 : TI := { size := 1, bytes := 1, agg := false, k := .bool, zero := [.t (.bool false)] }
theorem ti4_ok : TIok Try.prog 4 ti4 := TIok.mk_ (z := .bool false) (by kernel_rfl) rfl rfl Try.underlying4 rfl rfl (by kernel_rfl) (fun h => by cases h)
def ti5 : TI := { size := 1, bytes := 1, agg := false, k := .int .u8, zero := [.t (.int .u8 0)] }
theorem ti5_ok : TIok Try.prog 5 ti5 := TIok.mk_ (z := .int .u8 0) (by kernel_rfl) rfl rfl Try.underlying5 rfl rfl (by kernel_rfl) (fun h => by cases h)
def ti9 : TI := { size := 1, bytes := 16, agg := false, k := .other, zero := [.t (.str ByteArray.empty)] }
theorem ti9_ok : TIok Try.prog 9 ti9 := TIok.mk_ (z := .string ByteArray.empty) (by kernel_rfl) rfl rfl Try.underlying9 rfl trivial (by kernel_rfl) (fun h => by cases h)
def ti12 : TI := { size := 1, bytes := 8, agg := false, k := .int .u64, zero := [.t (.int .u64 0)] }
theorem ti12_ok : TIok Try.prog 12 ti12 := TIok.mk_ (z := .int .u64 0) (by kernel_rfl) rfl rfl Try.underlying12 rfl rfl (by kernel_rfl) (fun h => by cases h)
def ti13 : TI := { size := 2, bytes := 24, agg := true, k := .st [(0, 9), (1, 12)], zero := [.t (.str ByteArray.empty), .t (.int .u64 0)] }
theorem ti13_ok : TIok Try.prog 13 ti13 := TIok.mk_ (z := .agg #[.string ByteArray.empty, .int .u64 0]) (by kernel_rfl) rfl rfl Try.underlying13 rfl ⟨_, rfl, rfl, fieldsOk_of (by kernel_rfl)⟩ (by kernel_rfl) (fun h => by cases h)
def ti21 : TI := { size := 1, bytes := 4, agg := false, k := .int .i32, zero := [.t (.int .i32 0)] }
theorem ti21_ok : TIok Try.prog 21 ti21 := TIok.mk_ (z := .int .i32 0) (by kernel_rfl) rfl rfl Try.underlying21 rfl rfl (by kernel_rfl) (fun h => by cases h)
def ti24 : TI := { size := 1, bytes := 24, agg := false, k := .sl 64, zero := [.nil] }
theorem ti24_ok : TIok Try.prog 24 ti24 := TIok.mk_ (z := .slice none 0 0) (by kernel_rfl) rfl rfl Try.underlying24 rfl rfl (by kernel_rfl) (fun h => by cases h)
def ti27 : TI := { size := 1, bytes := 24, agg := false, k := .sl 62, zero := [.nil] }
theorem ti27_ok : TIok Try.prog 27 ti27 := TIok.mk_ (z := .slice none 0 0) (by kernel_rfl) rfl rfl Try.underlying27 rfl rfl (by kernel_rfl) (fun h => by cases h)
def ti36 : TI := { size := 1, bytes := 24, agg := false, k := .sl 5, zero := [.nil] }
theorem ti36_ok : TIok Try.prog 36 ti36 := TIok.mk_ (z := .slice none 0 0) (by kernel_rfl) rfl rfl Try.underlying36 rfl rfl (by kernel_rfl) (fun h => by cases h)
def ti43 : TI := { size := 1, bytes := 24, agg := false, k := .sl 36, zero := [.nil] }
theorem ti43_ok : TIok Try.prog 43 ti43 := TIok.mk_ (z := .slice none 0 0) (by kernel_rfl) rfl rfl Try.underlying43 rfl rfl (by kernel_rfl) (fun h => by cases h)
def ti44 : TI := { size := 8, bytes := 96, agg := true, k := .st [(0, 3), (1, 3), (2, 3), (3, 3), (4, 43), (5, 3), (6, 43), (7, 3)], zero := [.t (.int .i64 0), .t (.int .i64 0), .t (.int .i64 0), .t (.int .i64 0), .nil, .t (.int .i64 0), .nil, .t (.int .i64 0)] }
theorem ti44_ok : TIok Try.prog 44 ti44 := TIok.mk_ (z := .agg #[.int .i64 0, .int .i64 0, .int .i64 0, .int .i64 0, .slice none 0 0, .int .i64 0, .slice none 0 0, .int .i64 0]) (by kernel_rfl) rfl rfl Try.underlying44 rfl ⟨_, rfl, rfl, fieldsOk_of (by kernel_rfl)⟩ (by kernel_rfl) (fun h => by cases h)
def ti45 : TI := { size := 8, bytes := 96, agg := true, k := .st [(0, 3), (1, 3), (2, 3), (3, 3), (4, 43), (5, 3), (6, 43), (7, 3)], zero := [.t (.int .i64 0), .t (.int .i64 0), .t (.int .i64 0), .t (.int .i64 0), .nil, .t (.int .i64 0), .nil, .t (.int .i64 0)] }
theorem ti45_ok : TIok Try.prog 45 ti45 := TIok.mk_ (z := .agg #[.int .i64 0, .int .i64 0, .int .i64 0, .int .i64 0, .slice none 0 0, .int .i64 0, .slice none 0 0, .int .i64 0]) (by kernel_rfl) rfl rfl Try.underlying45 rfl ⟨_, rfl, rfl, fieldsOk_of (by kernel_rfl)⟩ (by kernel_rfl) (fun h => by cases h)
def ti48 : TI := { size := 8, bytes := 96, agg := true, k := .st [(0, 3), (1, 3), (2, 3), (3, 3), (4, 43), (5, 3), (6, 43), (7, 3)], zero := [.t (.int .i64 0), .t (.int .i64 0), .t (.int .i64 0), .t (.int .i64 0), .nil, .t (.int .i64 0), .nil, .t (.int .i64 0)] }
theorem ti48_ok : TIok Try.prog 48 ti48 := TIok.mk_ (z := .agg #[.int .i64 0, .int .i64 0, .int .i64 0, .int .i64 0, .slice none 0 0, .int .i64 0, .slice none 0 0, .int .i64 0]) (by kernel_rfl) rfl rfl Try.underlying48 rfl ⟨_, rfl, rfl, fieldsOk_of (by kernel_rfl)⟩ (by kernel_rfl) (fun h => by cases h)
def ti54 : TI := { size := 1, bytes := 24, agg := false, k := .sl 77, zero := [.nil] }
theorem ti54_ok : TIok Try.prog 54 ti54 := TIok.mk_ (z := .slice none 0 0) (by kernel_rfl) rfl rfl Try.underlying54 rfl rfl (by kernel_rfl) (fun h => by cases h)
def ti55 : TI := { size := 2, bytes := 32, agg := true, k := .st [(0, 3), (1, 54)], zero := [.t (.int .i64 0), .nil] }
theorem ti55_ok : TIok Try.prog 55 ti55 := TIok.mk_ (z := .agg #[.int .i64 0, .slice none 0 0]) (by kernel_rfl) rfl rfl Try.underlying55 rfl ⟨_, rfl, rfl, fieldsOk_of (by kernel_rfl)⟩ (by kernel_rfl) (fun h => by cases h)
def ti56 : TI := { size := 2, bytes := 32, agg := true, k := .st [(0, 3), (1, 54)], zero := [.t (.int .i64 0), .nil] }
theorem ti56_ok : TIok Try.prog 56 ti56 := TIok.mk_ (z := .agg #[.int .i64 0, .slice none 0 0]) (by kernel_rfl) rfl rfl Try.underlying56 rfl ⟨_, rfl, rfl, fieldsOk_of (by kernel_rfl)⟩ (by kernel_rfl) (fun h => by cases h)
def ti61 : TI := { size := 3, bytes := 24, agg := true, k := .st [(0, 3), (1, 3), (2, 3)], zero := [.t (.int .i64 0), .t (.int .i64 0), .t (.int .i64 0)], cmp := true }
theorem ti61_ok : TIok Try.prog 61 ti61 := TIok.mk_ (z := .agg #[.int .i64 0, .int .i64 0, .int .i64 0]) (by kernel_rfl) rfl rfl Try.underlying61 rfl ⟨_, rfl, rfl, fieldsOk_of (by kernel_rfl)⟩ (by kernel_rfl) (tiEq_of Try.prog 61 ti61 (by kernel_rfl) (by kernel_rfl) Try.underlying61 rfl (by kernel_rfl))
def ti62 : TI := { size := 3, bytes := 24, agg := true, k := .st [(0, 3), (1, 3), (2, 3)], zero := [.t (.int .i64 0), .t (.int .i64 0), .t (.int .i64 0)], cmp := true }
theorem ti62_ok : TIok Try.prog 62 ti62 := TIok.mk_ (z := .agg #[.int .i64 0, .int .i64 0, .int .i64 0]) (by kernel_rfl) rfl rfl Try.underlying62 rfl ⟨_, rfl, rfl, fieldsOk_of (by kernel_rfl)⟩ (by kernel_rfl) (tiEq_of Try.prog 62 ti62 (by kernel_rfl) (by kernel_rfl) Try.underlying62 rfl (by kernel_rfl))
def ti64 : TI := { size := 3, bytes := 24, agg := true, k := .st [(0, 3), (1, 3), (2, 3)], zero := [.t (.int .i64 0), .t (.int .i64 0), .t (.int .i64 0)], cmp := true }
theorem ti64_ok : TIok Try.prog 64 ti64 := TIok.mk_ (z := .agg #[.int .i64 0, .int .i64 0, .int .i64 0]) (by kernel_rfl) rfl rfl Try.underlying64 rfl ⟨_, rfl, rfl, fieldsOk_of (by kernel_rfl)⟩ (by kernel_rfl) (tiEq_of Try.prog 64 ti64 (by kernel_rfl) (by kernel_rfl) Try.underlying64 rfl (by kernel_rfl))
def ti74 : TI := { size := 1, bytes := 24, agg := true, k := .st [(0, 43)], zero := [.nil] }
theorem ti74_ok : TIok Try.prog 74 ti74 := TIok.mk_ (z := .agg #[.slice none 0 0]) (by kernel_rfl) rfl rfl Try.underlying74 rfl ⟨_, rfl, rfl, fieldsOk_of (by kernel_rfl)⟩ (by kernel_rfl) (fun h => by cases h)
def ti75 : TI := { size := 1, bytes := 24, agg := true, k := .st [(0, 43)], zero := [.nil] }
theorem ti75_ok : TIok Try.prog 75 ti75 := TIok.mk_ (z := .agg #[.slice none 0 0]) (by kernel_rfl) rfl rfl Try.underlying75 rfl ⟨_, rfl, rfl, fieldsOk_of (by kernel_rfl)⟩ (by kernel_rfl) (fun h => by cases h)
def ti76 : TI := { size := 2, bytes := 32, agg := true, k := .st [(0, 3), (1, 75)], zero := [.t (.int .i64 0), .nil] }
theorem ti76_ok : TIok Try.prog 76 ti76 := TIok.mk_ (z := .agg #[.int .i64 0, .slice none 0 0]) (by kernel_rfl) rfl rfl Try.underlying76 rfl ⟨_, rfl, rfl, fieldsOk_of (by kernel_rfl)⟩ (by kernel_rfl) (fun h => by cases h)
def ti77 : TI := { size := 2, bytes := 32, agg := true, k := .st [(0, 3), (1, 75)], zero := [.t (.int .i64 0), .nil] }
theorem ti77_ok : TIok Try.prog 77 ti77 := TIok.mk_ (z := .agg #[.int .i64 0, .slice none 0 0]) (by kernel_rfl) rfl rfl Try.underlying77 rfl ⟨_, rfl, rfl, fieldsOk_of (by kernel_rfl)⟩ (by kernel_rfl) (fun h => by cases h)
def ti86 : TI := { size := 1, bytes := 4, agg := false, k := .int .u32, zero := [.t (.int .u32 0)] }
theorem ti86_ok : TIok Try.prog 86 ti86 := TIok.mk_ (z := .int .u32 0) (by kernel_rfl) rfl rfl Try.underlying86 rfl rfl (by kernel_rfl) (fun h => by cases h)
def tys : List (Nat × TI) := [(2, ti2), (3, ti3), (4, ti4), (5, ti5), (9, ti9), (12, ti12), (13, ti13), (21, ti21), (24, ti24), (27, ti27), (36, ti36), (43, ti43), (44, ti44), (45, ti45), (48, ti48), (54, ti54), (55, ti55), (56, ti56), (61, ti61), (62, ti62), (64, ti64), (74, ti74), (75, ti75), (76, ti76), (77, ti77), (86, ti86)]
theorem tys_ok : TOk Try.prog (get tys) :=
  tok_of (by
    intro p hp
    simp only [tys, List.mem_cons, List.not_mem_nil, or_false] at hp
    rcases hp with rfl | rfl | rfl | rfl | rfl | rfl | rfl | rfl | rfl | rfl | rfl | rfl | rfl | rfl | rfl | rfl | rfl | rfl | rfl | rfl | rfl | rfl | rfl | rfl | rfl | rfl
    · exact ti2_ok
    · exact ti3_ok
    · exact ti4_ok
    · exact ti5_ok
    · exact ti9_ok
    · exact ti12_ok
    · exact ti13_ok
    · exact ti21_ok
    · exact ti24_ok
    · exact ti27_ok
    · exact ti36_ok
    · exact ti43_ok
    · exact ti44_ok
    · exact ti45_ok
    · exact ti48_ok
    · exact ti54_ok
    · exact ti55_ok
    · exact ti56_ok
    · exact ti61_ok
    · exact ti62_ok
    · exact ti64_ok
    · exact ti74_ok
    · exact ti75_ok
    · exact ti76_ok
    · exact ti77_ok
    · exact ti86_ok)
/-- The contract of a function of this program, from the evaluation of its body. -/
theorem fn_of {f : FuncId} {fn : Func} {c : Code} (hf : Try.prog.funcs[f]? = some fn) (hb : fn.body = some c) (hn : (fn.name == "runtime.NumGoroutine") = false) {args : List V} {rs : List RV} (hlen : Nat.ble args.length fn.ntmps = true)
    (h : ev Try.prog (get tys) fn.ntmps c (retK (get tys) fn.results.toList rs) ⟨initEnv 0 args, [], 0⟩) : FnAt Try.prog f args rs :=
  fnAt_of tys_ok (by kernel_rfl) hf hb hn hlen h
/-- The same for one that writes in place. -/
theorem mut_of {f : FuncId} {fn : Func} {c : Code} (hf : Try.prog.funcs[f]? = some fn) (hb : fn.body = some c) (hn : (fn.name == "runtime.NumGoroutine") = false) {m m' : RV} {xs : List V} {y : T} (hlen : Nat.ble (xs.length + 1) fn.ntmps = true)
    (has : ∀ x ∈ xs, ∃ z, x = .one z ∧ isScal z = true) (hy : isScal y = true) (h : ev Try.prog (get tys) fn.ntmps c (retM (get tys) fn.results.toList m' y) (mSt m xs)) : MutAt Try.prog f m m' xs y :=
  mutAt_of tys_ok (by kernel_rfl) hf hb hn hlen has hy h
end Go.Proofs.Ytkjheelgilffiaa
