/-
  The table of this seat's types for the program logic, written by a program of ours off the translation; each entry is held against the program by the kernel.
  Conditions: none.
-/
import Derived.Test.YteecgbgdmfjogaaGreatProg
import Derived.Test.YteecgbgdmfjogaaGreatVmSd
import Derived.Test.YteecgbgdmfjogaaGreatVmAf
namespace Go.Proofs.YteecgbgdmfjogaaGreat
open Go.Vm Go.RowKit

def ti2 : TI := { size := 1, bytes := 8, agg := false, k := .int .i64, zero := [.t (.int .i64 0)] }
theorem ti2_ok : TIok Tryz.prog 2 ti2 := TIok.mk_ (z := .int .i64 0) (by kernel_rfl) rfl rfl Tryz.underlying2 rfl rfl (by kernel_rfl) (fun h => by cases h)
def ti3 : TI := { size := 1, bytes := 8, agg := false, k := .int .i64, zero := [.t (.int .i64 0)] }
theorem ti3_ok : TIok Tryz.prog 3 ti3 := TIok.mk_ (z := .int .i64 0) (by kernel_rfl) rfl rfl Tryz.underlying3 rfl rfl (by kernel_rfl) (fun h => by cases h)
def ti4 : TI := { size := 1, bytes := 1, agg := false, k := .bool, zero := [.t (.bool false)] }
theorem ti4_ok : TIok Tryz.prog 4 ti4 := TIok.mk_ (z := .bool false) (by kernel_rfl) rfl rfl Tryz.underlying4 rfl rfl (by kernel_rfl) (fun h => by cases h)
def ti5 : TI := { size := 1, bytes := 1, agg := false, k := .int .u8, zero := [.t (.int .u8 0)] }
theorem ti5_ok : TIok Tryz.prog 5 ti5 := TIok.mk_ (z := .int .u8 0) (by kernel_rfl) rfl rfl Tryz.underlying5 rfl rfl (by kernel_rfl) (fun h => by cases h)
def ti9 : TI := { size := 1, bytes := 16, agg := false, k := .str, zero := [.t (.str ByteArray.empty)] }
theorem ti9_ok : TIok Tryz.prog 9 ti9 := TIok.mk_ (z := .string ByteArray.empty) (by kernel_rfl) rfl rfl Tryz.underlying9 rfl rfl (by kernel_rfl) (fun h => by cases h)
def ti12 : TI := { size := 1, bytes := 8, agg := false, k := .int .u64, zero := [.t (.int .u64 0)] }
theorem ti12_ok : TIok Tryz.prog 12 ti12 := TIok.mk_ (z := .int .u64 0) (by kernel_rfl) rfl rfl Tryz.underlying12 rfl rfl (by kernel_rfl) (fun h => by cases h)
def ti13 : TI := { size := 2, bytes := 24, agg := true, k := .st [(0, 9), (1, 12)], zero := [.t (.str ByteArray.empty), .t (.int .u64 0)] }
theorem ti13_ok : TIok Tryz.prog 13 ti13 := TIok.mk_ (z := .agg #[.string ByteArray.empty, .int .u64 0]) (by kernel_rfl) rfl rfl Tryz.underlying13 rfl ⟨_, rfl, rfl, fieldsOk_of (by kernel_rfl)⟩ (by kernel_rfl) (fun h => by cases h)
def ti21 : TI := { size := 1, bytes := 4, agg := false, k := .int .i32, zero := [.t (.int .i32 0)] }
theorem ti21_ok : TIok Tryz.prog 21 ti21 := TIok.mk_ (z := .int .i32 0) (by kernel_rfl) rfl rfl Tryz.underlying21 rfl rfl (by kernel_rfl) (fun h => by cases h)
def ti22 : TI := { size := 1, bytes := 24, agg := false, k := .sl 5, zero := [.nil] }
theorem ti22_ok : TIok Tryz.prog 22 ti22 := TIok.mk_ (z := .slice none 0 0) (by kernel_rfl) rfl rfl Tryz.underlying22 rfl rfl (by kernel_rfl) (fun h => by cases h)
def ti26 : TI := { size := 1, bytes := 24, agg := false, k := .sl 49, zero := [.nil] }
theorem ti26_ok : TIok Tryz.prog 26 ti26 := TIok.mk_ (z := .slice none 0 0) (by kernel_rfl) rfl rfl Tryz.underlying26 rfl rfl (by kernel_rfl) (fun h => by cases h)
def ti27 : TI := { size := 1, bytes := 24, agg := false, k := .sl 45, zero := [.nil] }
theorem ti27_ok : TIok Tryz.prog 27 ti27 := TIok.mk_ (z := .slice none 0 0) (by kernel_rfl) rfl rfl Tryz.underlying27 rfl rfl (by kernel_rfl) (fun h => by cases h)
def ti28 : TI := { size := 1, bytes := 24, agg := false, k := .sl 93, zero := [.nil] }
theorem ti28_ok : TIok Tryz.prog 28 ti28 := TIok.mk_ (z := .slice none 0 0) (by kernel_rfl) rfl rfl Tryz.underlying28 rfl rfl (by kernel_rfl) (fun h => by cases h)
def ti29 : TI := { size := 2, bytes := 32, agg := true, k := .st [(0, 3), (1, 28)], zero := [.t (.int .i64 0), .nil] }
theorem ti29_ok : TIok Tryz.prog 29 ti29 := TIok.mk_ (z := .agg #[.int .i64 0, .slice none 0 0]) (by kernel_rfl) rfl rfl Tryz.underlying29 rfl ⟨_, rfl, rfl, fieldsOk_of (by kernel_rfl)⟩ (by kernel_rfl) (fun h => by cases h)
def ti30 : TI := { size := 2, bytes := 32, agg := true, k := .st [(0, 3), (1, 28)], zero := [.t (.int .i64 0), .nil] }
theorem ti30_ok : TIok Tryz.prog 30 ti30 := TIok.mk_ (z := .agg #[.int .i64 0, .slice none 0 0]) (by kernel_rfl) rfl rfl Tryz.underlying30 rfl ⟨_, rfl, rfl, fieldsOk_of (by kernel_rfl)⟩ (by kernel_rfl) (fun h => by cases h)
def ti31 : TI := { size := 1, bytes := 24, agg := false, k := .sl 3, zero := [.nil] }
theorem ti31_ok : TIok Tryz.prog 31 ti31 := TIok.mk_ (z := .slice none 0 0) (by kernel_rfl) rfl rfl Tryz.underlying31 rfl rfl (by kernel_rfl) (fun h => by cases h)
def ti32 : TI := { size := 10, bytes := 144, agg := true, k := .st [(0, 3), (1, 26), (2, 27), (3, 30), (5, 3), (6, 3), (7, 3), (8, 31), (9, 3)], zero := [.t (.int .i64 0), .nil, .nil, .t (.int .i64 0), .nil, .t (.int .i64 0), .t (.int .i64 0), .t (.int .i64 0), .nil, .t (.int .i64 0)] }
theorem ti32_ok : TIok Tryz.prog 32 ti32 := TIok.mk_ (z := .agg #[.int .i64 0, .slice none 0 0, .slice none 0 0, .int .i64 0, .slice none 0 0, .int .i64 0, .int .i64 0, .int .i64 0, .slice none 0 0, .int .i64 0]) (by kernel_rfl) rfl rfl Tryz.underlying32 rfl ⟨_, rfl, rfl, fieldsOk_of (by kernel_rfl)⟩ (by kernel_rfl) (fun h => by cases h)
def ti33 : TI := { size := 10, bytes := 144, agg := true, k := .st [(0, 3), (1, 26), (2, 27), (3, 30), (5, 3), (6, 3), (7, 3), (8, 31), (9, 3)], zero := [.t (.int .i64 0), .nil, .nil, .t (.int .i64 0), .nil, .t (.int .i64 0), .t (.int .i64 0), .t (.int .i64 0), .nil, .t (.int .i64 0)] }
theorem ti33_ok : TIok Tryz.prog 33 ti33 := TIok.mk_ (z := .agg #[.int .i64 0, .slice none 0 0, .slice none 0 0, .int .i64 0, .slice none 0 0, .int .i64 0, .int .i64 0, .int .i64 0, .slice none 0 0, .int .i64 0]) (by kernel_rfl) rfl rfl Tryz.underlying33 rfl ⟨_, rfl, rfl, fieldsOk_of (by kernel_rfl)⟩ (by kernel_rfl) (fun h => by cases h)
def ti41 : TI := { size := 1, bytes := 24, agg := false, k := .sl 22, zero := [.nil] }
theorem ti41_ok : TIok Tryz.prog 41 ti41 := TIok.mk_ (z := .slice none 0 0) (by kernel_rfl) rfl rfl Tryz.underlying41 rfl rfl (by kernel_rfl) (fun h => by cases h)
def ti42 : TI := { size := 8, bytes := 96, agg := true, k := .st [(0, 3), (1, 3), (2, 3), (3, 3), (4, 41), (5, 3), (6, 41), (7, 3)], zero := [.t (.int .i64 0), .t (.int .i64 0), .t (.int .i64 0), .t (.int .i64 0), .nil, .t (.int .i64 0), .nil, .t (.int .i64 0)] }
theorem ti42_ok : TIok Tryz.prog 42 ti42 := TIok.mk_ (z := .agg #[.int .i64 0, .int .i64 0, .int .i64 0, .int .i64 0, .slice none 0 0, .int .i64 0, .slice none 0 0, .int .i64 0]) (by kernel_rfl) rfl rfl Tryz.underlying42 rfl ⟨_, rfl, rfl, fieldsOk_of (by kernel_rfl)⟩ (by kernel_rfl) (fun h => by cases h)
def ti43 : TI := { size := 8, bytes := 96, agg := true, k := .st [(0, 3), (1, 3), (2, 3), (3, 3), (4, 41), (5, 3), (6, 41), (7, 3)], zero := [.t (.int .i64 0), .t (.int .i64 0), .t (.int .i64 0), .t (.int .i64 0), .nil, .t (.int .i64 0), .nil, .t (.int .i64 0)] }
theorem ti43_ok : TIok Tryz.prog 43 ti43 := TIok.mk_ (z := .agg #[.int .i64 0, .int .i64 0, .int .i64 0, .int .i64 0, .slice none 0 0, .int .i64 0, .slice none 0 0, .int .i64 0]) (by kernel_rfl) rfl rfl Tryz.underlying43 rfl ⟨_, rfl, rfl, fieldsOk_of (by kernel_rfl)⟩ (by kernel_rfl) (fun h => by cases h)
def ti44 : TI := { size := 16, bytes := 192, agg := true, k := .st [(0, 43), (8, 43)], zero := [.t (.int .i64 0), .t (.int .i64 0), .t (.int .i64 0), .t (.int .i64 0), .nil, .t (.int .i64 0), .nil, .t (.int .i64 0), .t (.int .i64 0), .t (.int .i64 0), .t (.int .i64 0), .t (.int .i64 0), .nil, .t (.int .i64 0), .nil, .t (.int .i64 0)] }
theorem ti44_ok : TIok Tryz.prog 44 ti44 := TIok.mk_ (z := .agg #[.int .i64 0, .int .i64 0, .int .i64 0, .int .i64 0, .slice none 0 0, .int .i64 0, .slice none 0 0, .int .i64 0, .int .i64 0, .int .i64 0, .int .i64 0, .int .i64 0, .slice none 0 0, .int .i64 0, .slice none 0 0, .int .i64 0]) (by kernel_rfl) rfl rfl Tryz.underlying44 rfl ⟨_, rfl, rfl, fieldsOk_of (by kernel_rfl)⟩ (by kernel_rfl) (fun h => by cases h)
def ti45 : TI := { size := 16, bytes := 192, agg := true, k := .st [(0, 43), (8, 43)], zero := [.t (.int .i64 0), .t (.int .i64 0), .t (.int .i64 0), .t (.int .i64 0), .nil, .t (.int .i64 0), .nil, .t (.int .i64 0), .t (.int .i64 0), .t (.int .i64 0), .t (.int .i64 0), .t (.int .i64 0), .nil, .t (.int .i64 0), .nil, .t (.int .i64 0)] }
theorem ti45_ok : TIok Tryz.prog 45 ti45 := TIok.mk_ (z := .agg #[.int .i64 0, .int .i64 0, .int .i64 0, .int .i64 0, .slice none 0 0, .int .i64 0, .slice none 0 0, .int .i64 0, .int .i64 0, .int .i64 0, .int .i64 0, .int .i64 0, .slice none 0 0, .int .i64 0, .slice none 0 0, .int .i64 0]) (by kernel_rfl) rfl rfl Tryz.underlying45 rfl ⟨_, rfl, rfl, fieldsOk_of (by kernel_rfl)⟩ (by kernel_rfl) (fun h => by cases h)
def ti47 : TI := { size := 1, bytes := 24, agg := false, k := .sl 96, zero := [.nil] }
theorem ti47_ok : TIok Tryz.prog 47 ti47 := TIok.mk_ (z := .slice none 0 0) (by kernel_rfl) rfl rfl Tryz.underlying47 rfl rfl (by kernel_rfl) (fun h => by cases h)
def ti48 : TI := { size := 5, bytes := 56, agg := true, k := .st [(0, 3), (1, 3), (2, 3), (3, 47), (4, 3)], zero := [.t (.int .i64 0), .t (.int .i64 0), .t (.int .i64 0), .nil, .t (.int .i64 0)] }
theorem ti48_ok : TIok Tryz.prog 48 ti48 := TIok.mk_ (z := .agg #[.int .i64 0, .int .i64 0, .int .i64 0, .slice none 0 0, .int .i64 0]) (by kernel_rfl) rfl rfl Tryz.underlying48 rfl ⟨_, rfl, rfl, fieldsOk_of (by kernel_rfl)⟩ (by kernel_rfl) (fun h => by cases h)
def ti49 : TI := { size := 5, bytes := 56, agg := true, k := .st [(0, 3), (1, 3), (2, 3), (3, 47), (4, 3)], zero := [.t (.int .i64 0), .t (.int .i64 0), .t (.int .i64 0), .nil, .t (.int .i64 0)] }
theorem ti49_ok : TIok Tryz.prog 49 ti49 := TIok.mk_ (z := .agg #[.int .i64 0, .int .i64 0, .int .i64 0, .slice none 0 0, .int .i64 0]) (by kernel_rfl) rfl rfl Tryz.underlying49 rfl ⟨_, rfl, rfl, fieldsOk_of (by kernel_rfl)⟩ (by kernel_rfl) (fun h => by cases h)
def ti85 : TI := { size := 3, bytes := 40, agg := true, k := .st [(0, 22), (1, 3), (2, 3)], zero := [.nil, .t (.int .i64 0), .t (.int .i64 0)] }
theorem ti85_ok : TIok Tryz.prog 85 ti85 := TIok.mk_ (z := .agg #[.slice none 0 0, .int .i64 0, .int .i64 0]) (by kernel_rfl) rfl rfl Tryz.underlying85 rfl ⟨_, rfl, rfl, fieldsOk_of (by kernel_rfl)⟩ (by kernel_rfl) (fun h => by cases h)
def ti86 : TI := { size := 3, bytes := 40, agg := true, k := .st [(0, 22), (1, 3), (2, 3)], zero := [.nil, .t (.int .i64 0), .t (.int .i64 0)] }
theorem ti86_ok : TIok Tryz.prog 86 ti86 := TIok.mk_ (z := .agg #[.slice none 0 0, .int .i64 0, .int .i64 0]) (by kernel_rfl) rfl rfl Tryz.underlying86 rfl ⟨_, rfl, rfl, fieldsOk_of (by kernel_rfl)⟩ (by kernel_rfl) (fun h => by cases h)
def ti90 : TI := { size := 1, bytes := 24, agg := true, k := .st [(0, 41)], zero := [.nil] }
theorem ti90_ok : TIok Tryz.prog 90 ti90 := TIok.mk_ (z := .agg #[.slice none 0 0]) (by kernel_rfl) rfl rfl Tryz.underlying90 rfl ⟨_, rfl, rfl, fieldsOk_of (by kernel_rfl)⟩ (by kernel_rfl) (fun h => by cases h)
def ti91 : TI := { size := 1, bytes := 24, agg := true, k := .st [(0, 41)], zero := [.nil] }
theorem ti91_ok : TIok Tryz.prog 91 ti91 := TIok.mk_ (z := .agg #[.slice none 0 0]) (by kernel_rfl) rfl rfl Tryz.underlying91 rfl ⟨_, rfl, rfl, fieldsOk_of (by kernel_rfl)⟩ (by kernel_rfl) (fun h => by cases h)
def ti92 : TI := { size := 2, bytes := 32, agg := true, k := .st [(0, 3), (1, 91)], zero := [.t (.int .i64 0), .nil] }
theorem ti92_ok : TIok Tryz.prog 92 ti92 := TIok.mk_ (z := .agg #[.int .i64 0, .slice none 0 0]) (by kernel_rfl) rfl rfl Tryz.underlying92 rfl ⟨_, rfl, rfl, fieldsOk_of (by kernel_rfl)⟩ (by kernel_rfl) (fun h => by cases h)
def ti93 : TI := { size := 2, bytes := 32, agg := true, k := .st [(0, 3), (1, 91)], zero := [.t (.int .i64 0), .nil] }
theorem ti93_ok : TIok Tryz.prog 93 ti93 := TIok.mk_ (z := .agg #[.int .i64 0, .slice none 0 0]) (by kernel_rfl) rfl rfl Tryz.underlying93 rfl ⟨_, rfl, rfl, fieldsOk_of (by kernel_rfl)⟩ (by kernel_rfl) (fun h => by cases h)
def ti95 : TI := { size := 2, bytes := 32, agg := true, k := .st [(0, 3), (1, 91)], zero := [.t (.int .i64 0), .nil] }
theorem ti95_ok : TIok Tryz.prog 95 ti95 := TIok.mk_ (z := .agg #[.int .i64 0, .slice none 0 0]) (by kernel_rfl) rfl rfl Tryz.underlying95 rfl ⟨_, rfl, rfl, fieldsOk_of (by kernel_rfl)⟩ (by kernel_rfl) (fun h => by cases h)
def ti96 : TI := { size := 2, bytes := 32, agg := true, k := .st [(0, 3), (1, 91)], zero := [.t (.int .i64 0), .nil] }
theorem ti96_ok : TIok Tryz.prog 96 ti96 := TIok.mk_ (z := .agg #[.int .i64 0, .slice none 0 0]) (by kernel_rfl) rfl rfl Tryz.underlying96 rfl ⟨_, rfl, rfl, fieldsOk_of (by kernel_rfl)⟩ (by kernel_rfl) (fun h => by cases h)
def ti114 : TI := { size := 1, bytes := 8, agg := false, k := .int .u64, zero := [.t (.int .u64 0)] }
theorem ti114_ok : TIok Tryz.prog 114 ti114 := TIok.mk_ (z := .int .u64 0) (by kernel_rfl) rfl rfl Tryz.underlying114 rfl rfl (by kernel_rfl) (fun h => by cases h)
def ti115 : TI := { size := 1, bytes := 24, agg := false, k := .sl 31, zero := [.nil] }
theorem ti115_ok : TIok Tryz.prog 115 ti115 := TIok.mk_ (z := .slice none 0 0) (by kernel_rfl) rfl rfl Tryz.underlying115 rfl rfl (by kernel_rfl) (fun h => by cases h)
def ti136 : TI := { size := 2, bytes := 32, agg := true, k := .st [(0, 3), (1, 22)], zero := [.t (.int .i64 0), .nil] }
theorem ti136_ok : TIok Tryz.prog 136 ti136 := TIok.mk_ (z := .agg #[.int .i64 0, .slice none 0 0]) (by kernel_rfl) rfl rfl Tryz.underlying136 rfl ⟨_, rfl, rfl, fieldsOk_of (by kernel_rfl)⟩ (by kernel_rfl) (fun h => by cases h)
def ti137 : TI := { size := 2, bytes := 32, agg := true, k := .st [(0, 3), (1, 22)], zero := [.t (.int .i64 0), .nil] }
theorem ti137_ok : TIok Tryz.prog 137 ti137 := TIok.mk_ (z := .agg #[.int .i64 0, .slice none 0 0]) (by kernel_rfl) rfl rfl Tryz.underlying137 rfl ⟨_, rfl, rfl, fieldsOk_of (by kernel_rfl)⟩ (by kernel_rfl) (fun h => by cases h)
def ti154 : TI := { size := 1, bytes := 4, agg := false, k := .int .u32, zero := [.t (.int .u32 0)] }
theorem ti154_ok : TIok Tryz.prog 154 ti154 := TIok.mk_ (z := .int .u32 0) (by kernel_rfl) rfl rfl Tryz.underlying154 rfl rfl (by kernel_rfl) (fun h => by cases h)
def tys : List (Nat × TI) := [(2, ti2), (3, ti3), (4, ti4), (5, ti5), (9, ti9), (12, ti12), (13, ti13), (21, ti21), (22, ti22), (26, ti26), (27, ti27), (28, ti28), (29, ti29), (30, ti30), (31, ti31), (32, ti32), (33, ti33), (41, ti41), (42, ti42), (43, ti43), (44, ti44), (45, ti45), (47, ti47), (48, ti48), (49, ti49), (85, ti85), (86, ti86), (90, ti90), (91, ti91), (92, ti92), (93, ti93), (95, ti95), (96, ti96), (114, ti114), (115, ti115), (136, ti136), (137, ti137), (154, ti154)]
theorem tys_ok : TOk Tryz.prog (get tys) :=
  tok_of (by
    intro p hp
    simp only [tys, List.mem_cons, List.not_mem_nil, or_false] at hp
    rcases hp with rfl | rfl | rfl | rfl | rfl | rfl | rfl | rfl | rfl | rfl | rfl | rfl | rfl | rfl | rfl | rfl | rfl | rfl | rfl | rfl | rfl | rfl | rfl | rfl | rfl | rfl | rfl | rfl | rfl | rfl | rfl | rfl | rfl | rfl | rfl | rfl | rfl | rfl
    · exact ti2_ok
    · exact ti3_ok
    · exact ti4_ok
    · exact ti5_ok
    · exact ti9_ok
    · exact ti12_ok
    · exact ti13_ok
    · exact ti21_ok
    · exact ti22_ok
    · exact ti26_ok
    · exact ti27_ok
    · exact ti28_ok
    · exact ti29_ok
    · exact ti30_ok
    · exact ti31_ok
    · exact ti32_ok
    · exact ti33_ok
    · exact ti41_ok
    · exact ti42_ok
    · exact ti43_ok
    · exact ti44_ok
    · exact ti45_ok
    · exact ti47_ok
    · exact ti48_ok
    · exact ti49_ok
    · exact ti85_ok
    · exact ti86_ok
    · exact ti90_ok
    · exact ti91_ok
    · exact ti92_ok
    · exact ti93_ok
    · exact ti95_ok
    · exact ti96_ok
    · exact ti114_ok
    · exact ti115_ok
    · exact ti136_ok
    · exact ti137_ok
    · exact ti154_ok)
/-- The contract of a function of this program, from the evaluation of its body. -/
theorem fn_of {f : FuncId} {fn : Func} {c : Code} (hf : Tryz.prog.funcs[f]? = some fn) (hb : fn.body = some c) (hn : (fn.name == "runtime.NumGoroutine") = false) {args : List V} {rs : List RV} (hlen : Nat.ble args.length fn.ntmps = true)
    (h : ev Tryz.prog (get tys) fn.ntmps c (retK (get tys) fn.results.toList rs) ⟨initEnv 0 args, [], 0⟩) : FnAt Tryz.prog f args rs :=
  fnAt_of tys_ok (by kernel_rfl) hf hb hn hlen h
/-- The same for one that writes in place. -/
theorem mut_of {f : FuncId} {fn : Func} {c : Code} (hf : Tryz.prog.funcs[f]? = some fn) (hb : fn.body = some c) (hn : (fn.name == "runtime.NumGoroutine") = false) {m m' : RV} {xs : List V} {y : T} (hlen : Nat.ble (xs.length + 1) fn.ntmps = true)
    (has : ∀ x ∈ xs, ∃ z, x = .one z ∧ isScal z = true) (hy : isScal y = true) (h : ev Tryz.prog (get tys) fn.ntmps c (retM (get tys) fn.results.toList m' y) (mSt m xs)) : MutAt Tryz.prog f m m' xs y :=
  mutAt_of tys_ok (by kernel_rfl) hf hb hn hlen has hy h
/-- The same for one that is called with a pointer to a box. -/
theorem cur_of {f : FuncId} {fn : Func} {c : Code} (hf : Tryz.prog.funcs[f]? = some fn) (hb : fn.body = some c) (hn : (fn.name == "runtime.NumGoroutine") = false) {cs cs' : List T} {xs : List V} {rs : List RV} (hlen : Nat.ble (xs.length + 1) fn.ntmps = true)
    (h : ev Tryz.prog (get tys) fn.ntmps c (retC (get tys) fn.results.toList cs' rs) (cSt cs xs)) : CurAt Tryz.prog f cs cs' xs rs :=
  cur_of_ev tys_ok (by kernel_rfl) hf hb hn hlen h
/-- The same, where of the results a property alone is known. -/
theorem fnE_of {f : FuncId} {fn : Func} {c : Code} (hf : Tryz.prog.funcs[f]? = some fn) (hb : fn.body = some c) (hn : (fn.name == "runtime.NumGoroutine") = false) {args : List V} {X : Type} {rs : X → List RV} {Q : X → Prop} (hlen : Nat.ble args.length fn.ntmps = true)
    (h : ev Tryz.prog (get tys) fn.ntmps c (retKE (get tys) fn.results.toList rs Q) ⟨initEnv 0 args, [], 0⟩) : FnE Tryz.prog f args X rs Q :=
  fnE_of_ev tys_ok (by kernel_rfl) hf hb hn hlen h
theorem curE_of {f : FuncId} {fn : Func} {c : Code} (hf : Tryz.prog.funcs[f]? = some fn) (hb : fn.body = some c) (hn : (fn.name == "runtime.NumGoroutine") = false) {cs : List T} {xs : List V} {X : Type} {cs' : X → List T} {rs : X → List RV} {Q : X → Prop} (hlen : Nat.ble (xs.length + 1) fn.ntmps = true)
    (h : ev Tryz.prog (get tys) fn.ntmps c (retCE (get tys) fn.results.toList cs' rs Q) (cSt cs xs)) : CurE Tryz.prog f cs xs X cs' rs Q :=
  curE_of_ev tys_ok (by kernel_rfl) hf hb hn hlen h
/-- A call that is walked in place. -/
theorem jat_ {f : FuncId} {fn : Func} {c : Code} (hf : Tryz.prog.funcs[f]? = some fn) (hb : fn.body = some c) (hn : (fn.name == "runtime.NumGoroutine") = false) {avs : List AV} {σ : St} {K : AV → St → Prop} (hlen : Nat.ble avs.length fn.ntmps = true) (hav : avs.all noPin = true)
    (h : ev Tryz.prog (get tys) fn.ntmps c (retJ (get tys) fn.ntmps fn.results.toList K) ⟨jEnv fn.ntmps avs σ.env, σ.objs, σ.next⟩) : JAt Tryz.prog f avs σ K :=
  jat_of tys_ok (by kernel_rfl) hf hb hn hlen hav h
end Go.Proofs.YteecgbgdmfjogaaGreat
