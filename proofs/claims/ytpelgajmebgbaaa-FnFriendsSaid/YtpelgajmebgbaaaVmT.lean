/-
  The table of this seat's types for the program logic, written by a program of ours off the translation; each entry is held against the program by the kernel.
  Conditions: none.
-/
import Derived.Test.YtpelgajmebgbaaaProg
import Derived.Test.YtpelgajmebgbaaaVmP
import Derived.Test.YtpelgajmebgbaaaVmU
namespace Go.Proofs.Ytpelgajmebgbaaa
open Go.Vm Go.RowKit

def ti2 : TI := { size := 1, bytes := 8, agg := false, k := .int .i64, zero := [.t (.int .i64 0)] }
theorem ti2_ok : TIok Try.prog 2 ti2 := TIok.mk_ (z := .int .i64 0) (by kernel_rfl) rfl rfl Try.underlying2 rfl rfl (by kernel_rfl) (fun h => by cases h)
def ti3 : TI := { size := 1, bytes := 8, agg := false, k := .int .i64, zero := [.t (.int .i64 0)] }
theorem ti3_ok : TIok Try.prog 3 ti3 := TIok.mk_ (z := .int .i64 0) (by kernel_rfl) rfl rfl Try.underlying3 rfl rfl (by kernel_rfl) (fun h => by cases h)
def ti4 : TI := { size := 1, bytes := 1, agg := false, k := .bool, zero := [.t (.bool false)] }
theorem ti4_ok : TIok Try.prog 4 ti4 := TIok.mk_ (z := .bool false) (by kernel_rfl) rfl rfl Try.underlying4 rfl rfl (by kernel_rfl) (fun h => by cases h)
def ti5 : TI := { size := 1, bytes := 1, agg := false, k := .int .u8, zero := [.t (.int .u8 0)] }
theorem ti5_ok : TIok Try.prog 5 ti5 := TIok.mk_ (z := .int .u8 0) (by kernel_rfl) rfl rfl Try.underlying5 rfl rfl (by kernel_rfl) (fun h => by cases h)
def ti9 : TI := { size := 1, bytes := 16, agg := false, k := .str, zero := [.t (.str ByteArray.empty)] }
theorem ti9_ok : TIok Try.prog 9 ti9 := TIok.mk_ (z := .string ByteArray.empty) (by kernel_rfl) rfl rfl Try.underlying9 rfl rfl (by kernel_rfl) (fun h => by cases h)
def ti12 : TI := { size := 1, bytes := 8, agg := false, k := .int .u64, zero := [.t (.int .u64 0)] }
theorem ti12_ok : TIok Try.prog 12 ti12 := TIok.mk_ (z := .int .u64 0) (by kernel_rfl) rfl rfl Try.underlying12 rfl rfl (by kernel_rfl) (fun h => by cases h)
def ti13 : TI := { size := 2, bytes := 24, agg := true, k := .st [(0, 9), (1, 12)], zero := [.t (.str ByteArray.empty), .t (.int .u64 0)] }
theorem ti13_ok : TIok Try.prog 13 ti13 := TIok.mk_ (z := .agg #[.string ByteArray.empty, .int .u64 0]) (by kernel_rfl) rfl rfl Try.underlying13 rfl ⟨_, rfl, rfl, fieldsOk_of (by kernel_rfl)⟩ (by kernel_rfl) (fun h => by cases h)
def ti21 : TI := { size := 1, bytes := 4, agg := false, k := .int .i32, zero := [.t (.int .i32 0)] }
theorem ti21_ok : TIok Try.prog 21 ti21 := TIok.mk_ (z := .int .i32 0) (by kernel_rfl) rfl rfl Try.underlying21 rfl rfl (by kernel_rfl) (fun h => by cases h)
def ti22 : TI := { size := 1, bytes := 24, agg := false, k := .sl 5, zero := [.nil] }
theorem ti22_ok : TIok Try.prog 22 ti22 := TIok.mk_ (z := .slice none 0 0) (by kernel_rfl) rfl rfl Try.underlying22 rfl rfl (by kernel_rfl) (fun h => by cases h)
def ti25 : TI := { size := 1, bytes := 24, agg := false, k := .sl 22, zero := [.nil] }
theorem ti25_ok : TIok Try.prog 25 ti25 := TIok.mk_ (z := .slice none 0 0) (by kernel_rfl) rfl rfl Try.underlying25 rfl rfl (by kernel_rfl) (fun h => by cases h)
def ti26 : TI := { size := 8, bytes := 96, agg := true, k := .st [(0, 3), (1, 3), (2, 3), (3, 3), (4, 25), (5, 3), (6, 25), (7, 3)], zero := [.t (.int .i64 0), .t (.int .i64 0), .t (.int .i64 0), .t (.int .i64 0), .nil, .t (.int .i64 0), .nil, .t (.int .i64 0)] }
theorem ti26_ok : TIok Try.prog 26 ti26 := TIok.mk_ (z := .agg #[.int .i64 0, .int .i64 0, .int .i64 0, .int .i64 0, .slice none 0 0, .int .i64 0, .slice none 0 0, .int .i64 0]) (by kernel_rfl) rfl rfl Try.underlying26 rfl ⟨_, rfl, rfl, fieldsOk_of (by kernel_rfl)⟩ (by kernel_rfl) (fun h => by cases h)
def ti27 : TI := { size := 8, bytes := 96, agg := true, k := .st [(0, 3), (1, 3), (2, 3), (3, 3), (4, 25), (5, 3), (6, 25), (7, 3)], zero := [.t (.int .i64 0), .t (.int .i64 0), .t (.int .i64 0), .t (.int .i64 0), .nil, .t (.int .i64 0), .nil, .t (.int .i64 0)] }
theorem ti27_ok : TIok Try.prog 27 ti27 := TIok.mk_ (z := .agg #[.int .i64 0, .int .i64 0, .int .i64 0, .int .i64 0, .slice none 0 0, .int .i64 0, .slice none 0 0, .int .i64 0]) (by kernel_rfl) rfl rfl Try.underlying27 rfl ⟨_, rfl, rfl, fieldsOk_of (by kernel_rfl)⟩ (by kernel_rfl) (fun h => by cases h)
def ti48 : TI := { size := 1, bytes := 24, agg := false, k := .sl 3, zero := [.nil] }
theorem ti48_ok : TIok Try.prog 48 ti48 := TIok.mk_ (z := .slice none 0 0) (by kernel_rfl) rfl rfl Try.underlying48 rfl rfl (by kernel_rfl) (fun h => by cases h)
def ti49 : TI := { size := 2, bytes := 32, agg := true, k := .st [(0, 3), (1, 22)], zero := [.t (.int .i64 0), .nil] }
theorem ti49_ok : TIok Try.prog 49 ti49 := TIok.mk_ (z := .agg #[.int .i64 0, .slice none 0 0]) (by kernel_rfl) rfl rfl Try.underlying49 rfl ⟨_, rfl, rfl, fieldsOk_of (by kernel_rfl)⟩ (by kernel_rfl) (fun h => by cases h)
def ti50 : TI := { size := 2, bytes := 32, agg := true, k := .st [(0, 3), (1, 22)], zero := [.t (.int .i64 0), .nil] }
theorem ti50_ok : TIok Try.prog 50 ti50 := TIok.mk_ (z := .agg #[.int .i64 0, .slice none 0 0]) (by kernel_rfl) rfl rfl Try.underlying50 rfl ⟨_, rfl, rfl, fieldsOk_of (by kernel_rfl)⟩ (by kernel_rfl) (fun h => by cases h)
def ti66 : TI := { size := 1, bytes := 24, agg := false, k := .sl 48, zero := [.nil] }
theorem ti66_ok : TIok Try.prog 66 ti66 := TIok.mk_ (z := .slice none 0 0) (by kernel_rfl) rfl rfl Try.underlying66 rfl rfl (by kernel_rfl) (fun h => by cases h)
def ti69 : TI := { size := 1, bytes := 8, agg := false, k := .int .u64, zero := [.t (.int .u64 0)] }
theorem ti69_ok : TIok Try.prog 69 ti69 := TIok.mk_ (z := .int .u64 0) (by kernel_rfl) rfl rfl Try.underlying69 rfl rfl (by kernel_rfl) (fun h => by cases h)
def ti77 : TI := { size := 1, bytes := 4, agg := false, k := .int .u32, zero := [.t (.int .u32 0)] }
theorem ti77_ok : TIok Try.prog 77 ti77 := TIok.mk_ (z := .int .u32 0) (by kernel_rfl) rfl rfl Try.underlying77 rfl rfl (by kernel_rfl) (fun h => by cases h)
def tys : List (Nat × TI) := [(2, ti2), (3, ti3), (4, ti4), (5, ti5), (9, ti9), (12, ti12), (13, ti13), (21, ti21), (22, ti22), (25, ti25), (26, ti26), (27, ti27), (48, ti48), (49, ti49), (50, ti50), (66, ti66), (69, ti69), (77, ti77)]
theorem tys_ok : TOk Try.prog (get tys) :=
  tok_of (by
    intro p hp
    simp only [tys, List.mem_cons, List.not_mem_nil, or_false] at hp
    rcases hp with rfl | rfl | rfl | rfl | rfl | rfl | rfl | rfl | rfl | rfl | rfl | rfl | rfl | rfl | rfl | rfl | rfl | rfl
    · exact ti2_ok
    · exact ti3_ok
    · exact ti4_ok
    · exact ti5_ok
    · exact ti9_ok
    · exact ti12_ok
    · exact ti13_ok
    · exact ti21_ok
    · exact ti22_ok
    · exact ti25_ok
    · exact ti26_ok
    · exact ti27_ok
    · exact ti48_ok
    · exact ti49_ok
    · exact ti50_ok
    · exact ti66_ok
    · exact ti69_ok
    · exact ti77_ok)
/-- The contract of a function of this program, from the evaluation of its body. -/
theorem fn_of {f : FuncId} {fn : Func} {c : Code} (hf : Try.prog.funcs[f]? = some fn) (hb : fn.body = some c) (hn : (fn.name == "runtime.NumGoroutine") = false) {args : List V} {rs : List RV} (hlen : Nat.ble args.length fn.ntmps = true)
    (h : ev Try.prog (get tys) fn.ntmps c (retK (get tys) fn.results.toList rs) ⟨initEnv 0 args, [], 0⟩) : FnAt Try.prog f args rs :=
  fnAt_of tys_ok (by kernel_rfl) hf hb hn hlen h
/-- The same for one that writes in place. -/
theorem mut_of {f : FuncId} {fn : Func} {c : Code} (hf : Try.prog.funcs[f]? = some fn) (hb : fn.body = some c) (hn : (fn.name == "runtime.NumGoroutine") = false) {m m' : RV} {xs : List V} {y : T} (hlen : Nat.ble (xs.length + 1) fn.ntmps = true)
    (has : ∀ x ∈ xs, ∃ z, x = .one z ∧ isScal z = true) (hy : isScal y = true) (h : ev Try.prog (get tys) fn.ntmps c (retM (get tys) fn.results.toList m' y) (mSt m xs)) : MutAt Try.prog f m m' xs y :=
  mutAt_of tys_ok (by kernel_rfl) hf hb hn hlen has hy h
end Go.Proofs.Ytpelgajmebgbaaa
