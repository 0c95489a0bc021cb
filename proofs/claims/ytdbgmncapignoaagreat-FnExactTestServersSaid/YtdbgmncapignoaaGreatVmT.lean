/-
  The table of this seat's types for the program logic, written by a program of ours off the translation; each entry is held against the program by the kernel.
  Conditions: none.
-/
import Derived.Test.YtdbgmncapignoaaGreatProg
import Derived.Test.YtdbgmncapignoaaGreatVmP
import Derived.Test.YtdbgmncapignoaaGreatVmAe
namespace Go.Proofs.YtdbgmncapignoaaGreat
open Go.Vm Go.RowKit

def ti2 : TI := { size := 1, bytes := 8, agg := false, k := .int .i64, zero := [.t (.int .i64 0)] }
theorem ti2_ok : TIok Tryz.prog 2 ti2 := TIok.mk_ (z := .int .i64 0) (by kernel_rfl) rfl rfl Tryz.underlying2 rfl rfl (by kernel_rfl) (fun h => by cases h)
def ti3 : TI := { size := 1, bytes := 8, agg := false, k := .int .i64, zero := [.t (.int .i64 0)] }
theorem ti3_ok : TIok Tryz.prog 3 ti3 := TIok.mk_ (z := .int .i64 0) (by kernel_rfl) rfl rfl Tryz.underlying3 rfl rfl (by kernel_rfl) (fun h => by cases h)
def ti4 : TI := { size := 1, bytes := 1, agg := false, k := .bool, zero := [.t (.bool false)] }
theorem ti4_ok : TIok Tryz.prog 4 ti4 := TIok.mk_ (z := .bool false) (by kernel_rfl) rfl rfl Tryz.underlying4 rfl rfl (by kernel_rfl) (fun h => by cases h)
def ti5 : TI := { size := 1, bytes := 1, agg := false, k := .int .u8, zero := [.t (.int .u8 0)] }
theorem ti5_ok : TIok Tryz.prog 5 ti5 := TIok.mk_ (z := .int .u8 0) (by kernel_rfl) rfl rfl Tryz.underlying5 rfl rfl (by kernel_rfl) (fun h => by cases h)
def ti9 : TI := { size := 1, bytes := 16, agg := false, k := .str, zero := [.t (.str ByteArray.empty)] }
theorem ti9_ok : TIok Tryz.prog 9 ti9 := TIok.mk_ (z := .string ByteArray.empty) (by kernel_rfl) rfl rfl Tryz.underlying9 rfl rfl (by kernel_rfl) (fun h => by cases h)
def ti12 : TI := { size := 1, bytes := 8, agg := false, k := .int .u64, zero := [.t (.int .u64 0)] }
theorem ti12_ok : TIok Tryz.prog 12 ti12 := TIok.mk_ (z := .int .u64 0) (by kernel_rfl) rfl rfl Tryz.underlying12 rfl rfl (by kernel_rfl) (fun h => by cases h)
def ti13 : TI := { size := 2, bytes := 24, agg := true, k := .st [(0, 9), (1, 12)], zero := [.t (.str ByteArray.empty), .t (.int .u64 0)] }
theorem ti13_ok : TIok Tryz.prog 13 ti13 := TIok.mk_ (z := .agg #[.string ByteArray.empty, .int .u64 0]) (by kernel_rfl) rfl rfl Tryz.underlying13 rfl ⟨_, rfl, rfl, fieldsOk_of (by kernel_rfl)⟩ (by kernel_rfl) (fun h => by cases h)
def ti21 : TI := { size := 1, bytes := 4, agg := false, k := .int .i32, zero := [.t (.int .i32 0)] }
theorem ti21_ok : TIok Tryz.prog 21 ti21 := TIok.mk_ (z := .int .i32 0) (by kernel_rfl) rfl rfl Tryz.underlying21 rfl rfl (by kernel_rfl) (fun h => by cases h)
def ti22 : TI := { size := 1, bytes := 24, agg := false, k := .sl 110, zero := [.nil] }
theorem ti22_ok : TIok Tryz.prog 22 ti22 := TIok.mk_ (z := .slice none 0 0) (by kernel_rfl) rfl rfl Tryz.underlying22 rfl rfl (by kernel_rfl) (fun h => by cases h)
def ti23 : TI := { size := 1, bytes := 24, agg := false, k := .sl 114, zero := [.nil] }
theorem ti23_ok : TIok Tryz.prog 23 ti23 := TIok.mk_ (z := .slice none 0 0) (by kernel_rfl) rfl rfl Tryz.underlying23 rfl rfl (by kernel_rfl) (fun h => by cases h)
def ti24 : TI := { size := 1, bytes := 24, agg := false, k := .sl 162, zero := [.nil] }
theorem ti24_ok : TIok Tryz.prog 24 ti24 := TIok.mk_ (z := .slice none 0 0) (by kernel_rfl) rfl rfl Tryz.underlying24 rfl rfl (by kernel_rfl) (fun h => by cases h)
def ti25 : TI := { size := 2, bytes := 32, agg := true, k := .st [(0, 3), (1, 24)], zero := [.t (.int .i64 0), .nil] }
theorem ti25_ok : TIok Tryz.prog 25 ti25 := TIok.mk_ (z := .agg #[.int .i64 0, .slice none 0 0]) (by kernel_rfl) rfl rfl Tryz.underlying25 rfl ⟨_, rfl, rfl, fieldsOk_of (by kernel_rfl)⟩ (by kernel_rfl) (fun h => by cases h)
def ti26 : TI := { size := 2, bytes := 32, agg := true, k := .st [(0, 3), (1, 24)], zero := [.t (.int .i64 0), .nil] }
theorem ti26_ok : TIok Tryz.prog 26 ti26 := TIok.mk_ (z := .agg #[.int .i64 0, .slice none 0 0]) (by kernel_rfl) rfl rfl Tryz.underlying26 rfl ⟨_, rfl, rfl, fieldsOk_of (by kernel_rfl)⟩ (by kernel_rfl) (fun h => by cases h)
def ti27 : TI := { size := 1, bytes := 24, agg := false, k := .sl 3, zero := [.nil] }
theorem ti27_ok : TIok Tryz.prog 27 ti27 := TIok.mk_ (z := .slice none 0 0) (by kernel_rfl) rfl rfl Tryz.underlying27 rfl rfl (by kernel_rfl) (fun h => by cases h)
def ti28 : TI := { size := 10, bytes := 144, agg := true, k := .st [(0, 3), (1, 22), (2, 23), (3, 26), (5, 3), (6, 3), (7, 3), (8, 27), (9, 3)], zero := [.t (.int .i64 0), .nil, .nil, .t (.int .i64 0), .nil, .t (.int .i64 0), .t (.int .i64 0), .t (.int .i64 0), .nil, .t (.int .i64 0)] }
theorem ti28_ok : TIok Tryz.prog 28 ti28 := TIok.mk_ (z := .agg #[.int .i64 0, .slice none 0 0, .slice none 0 0, .int .i64 0, .slice none 0 0, .int .i64 0, .int .i64 0, .int .i64 0, .slice none 0 0, .int .i64 0]) (by kernel_rfl) rfl rfl Tryz.underlying28 rfl ⟨_, rfl, rfl, fieldsOk_of (by kernel_rfl)⟩ (by kernel_rfl) (fun h => by cases h)
def ti29 : TI := { size := 10, bytes := 144, agg := true, k := .st [(0, 3), (1, 22), (2, 23), (3, 26), (5, 3), (6, 3), (7, 3), (8, 27), (9, 3)], zero := [.t (.int .i64 0), .nil, .nil, .t (.int .i64 0), .nil, .t (.int .i64 0), .t (.int .i64 0), .t (.int .i64 0), .nil, .t (.int .i64 0)] }
theorem ti29_ok : TIok Tryz.prog 29 ti29 := TIok.mk_ (z := .agg #[.int .i64 0, .slice none 0 0, .slice none 0 0, .int .i64 0, .slice none 0 0, .int .i64 0, .int .i64 0, .int .i64 0, .slice none 0 0, .int .i64 0]) (by kernel_rfl) rfl rfl Tryz.underlying29 rfl ⟨_, rfl, rfl, fieldsOk_of (by kernel_rfl)⟩ (by kernel_rfl) (fun h => by cases h)
def ti31 : TI := { size := 1, bytes := 24, agg := false, k := .sl 5, zero := [.nil] }
theorem ti31_ok : TIok Tryz.prog 31 ti31 := TIok.mk_ (z := .slice none 0 0) (by kernel_rfl) rfl rfl Tryz.underlying31 rfl rfl (by kernel_rfl) (fun h => by cases h)
def ti34 : TI := { size := 1, bytes := 24, agg := false, k := .sl 78, zero := [.nil] }
theorem ti34_ok : TIok Tryz.prog 34 ti34 := TIok.mk_ (z := .slice none 0 0) (by kernel_rfl) rfl rfl Tryz.underlying34 rfl rfl (by kernel_rfl) (fun h => by cases h)
def ti35 : TI := { size := 1, bytes := 24, agg := false, k := .sl 95, zero := [.nil] }
theorem ti35_ok : TIok Tryz.prog 35 ti35 := TIok.mk_ (z := .slice none 0 0) (by kernel_rfl) rfl rfl Tryz.underlying35 rfl rfl (by kernel_rfl) (fun h => by cases h)
def ti36 : TI := { size := 1, bytes := 24, agg := false, k := .sl 122, zero := [.nil] }
theorem ti36_ok : TIok Tryz.prog 36 ti36 := TIok.mk_ (z := .slice none 0 0) (by kernel_rfl) rfl rfl Tryz.underlying36 rfl rfl (by kernel_rfl) (fun h => by cases h)
def ti37 : TI := { size := 2, bytes := 32, agg := true, k := .st [(0, 3), (1, 36)], zero := [.t (.int .i64 0), .nil] }
theorem ti37_ok : TIok Tryz.prog 37 ti37 := TIok.mk_ (z := .agg #[.int .i64 0, .slice none 0 0]) (by kernel_rfl) rfl rfl Tryz.underlying37 rfl ⟨_, rfl, rfl, fieldsOk_of (by kernel_rfl)⟩ (by kernel_rfl) (fun h => by cases h)
def ti38 : TI := { size := 2, bytes := 32, agg := true, k := .st [(0, 3), (1, 36)], zero := [.t (.int .i64 0), .nil] }
theorem ti38_ok : TIok Tryz.prog 38 ti38 := TIok.mk_ (z := .agg #[.int .i64 0, .slice none 0 0]) (by kernel_rfl) rfl rfl Tryz.underlying38 rfl ⟨_, rfl, rfl, fieldsOk_of (by kernel_rfl)⟩ (by kernel_rfl) (fun h => by cases h)
def ti39 : TI := { size := 10, bytes := 144, agg := true, k := .st [(0, 3), (1, 34), (2, 35), (3, 38), (5, 3), (6, 3), (7, 3), (8, 27), (9, 3)], zero := [.t (.int .i64 0), .nil, .nil, .t (.int .i64 0), .nil, .t (.int .i64 0), .t (.int .i64 0), .t (.int .i64 0), .nil, .t (.int .i64 0)] }
theorem ti39_ok : TIok Tryz.prog 39 ti39 := TIok.mk_ (z := .agg #[.int .i64 0, .slice none 0 0, .slice none 0 0, .int .i64 0, .slice none 0 0, .int .i64 0, .int .i64 0, .int .i64 0, .slice none 0 0, .int .i64 0]) (by kernel_rfl) rfl rfl Tryz.underlying39 rfl ⟨_, rfl, rfl, fieldsOk_of (by kernel_rfl)⟩ (by kernel_rfl) (fun h => by cases h)
def ti40 : TI := { size := 10, bytes := 144, agg := true, k := .st [(0, 3), (1, 34), (2, 35), (3, 38), (5, 3), (6, 3), (7, 3), (8, 27), (9, 3)], zero := [.t (.int .i64 0), .nil, .nil, .t (.int .i64 0), .nil, .t (.int .i64 0), .t (.int .i64 0), .t (.int .i64 0), .nil, .t (.int .i64 0)] }
theorem ti40_ok : TIok Tryz.prog 40 ti40 := TIok.mk_ (z := .agg #[.int .i64 0, .slice none 0 0, .slice none 0 0, .int .i64 0, .slice none 0 0, .int .i64 0, .int .i64 0, .int .i64 0, .slice none 0 0, .int .i64 0]) (by kernel_rfl) rfl rfl Tryz.underlying40 rfl ⟨_, rfl, rfl, fieldsOk_of (by kernel_rfl)⟩ (by kernel_rfl) (fun h => by cases h)
def ti47 : TI := { size := 1, bytes := 24, agg := false, k := .sl 65, zero := [.nil] }
theorem ti47_ok : TIok Tryz.prog 47 ti47 := TIok.mk_ (z := .slice none 0 0) (by kernel_rfl) rfl rfl Tryz.underlying47 rfl rfl (by kernel_rfl) (fun h => by cases h)
def ti63 : TI := { size := 1, bytes := 24, agg := false, k := .sl 31, zero := [.nil] }
theorem ti63_ok : TIok Tryz.prog 63 ti63 := TIok.mk_ (z := .slice none 0 0) (by kernel_rfl) rfl rfl Tryz.underlying63 rfl rfl (by kernel_rfl) (fun h => by cases h)
def ti64 : TI := { size := 1, bytes := 24, agg := true, k := .st [(0, 63)], zero := [.nil] }
theorem ti64_ok : TIok Tryz.prog 64 ti64 := TIok.mk_ (z := .agg #[.slice none 0 0]) (by kernel_rfl) rfl rfl Tryz.underlying64 rfl ⟨_, rfl, rfl, fieldsOk_of (by kernel_rfl)⟩ (by kernel_rfl) (fun h => by cases h)
def ti65 : TI := { size := 1, bytes := 24, agg := true, k := .st [(0, 63)], zero := [.nil] }
theorem ti65_ok : TIok Tryz.prog 65 ti65 := TIok.mk_ (z := .agg #[.slice none 0 0]) (by kernel_rfl) rfl rfl Tryz.underlying65 rfl ⟨_, rfl, rfl, fieldsOk_of (by kernel_rfl)⟩ (by kernel_rfl) (fun h => by cases h)
def ti68 : TI := { size := 1, bytes := 24, agg := false, k := .sl 73, zero := [.nil] }
theorem ti68_ok : TIok Tryz.prog 68 ti68 := TIok.mk_ (z := .slice none 0 0) (by kernel_rfl) rfl rfl Tryz.underlying68 rfl rfl (by kernel_rfl) (fun h => by cases h)
def ti69 : TI := { size := 1, bytes := 24, agg := false, k := .sl 27, zero := [.nil] }
theorem ti69_ok : TIok Tryz.prog 69 ti69 := TIok.mk_ (z := .slice none 0 0) (by kernel_rfl) rfl rfl Tryz.underlying69 rfl rfl (by kernel_rfl) (fun h => by cases h)
def ti72 : TI := { size := 5, bytes := 72, agg := true, k := .st [(0, 3), (1, 3), (2, 27), (3, 31), (4, 3)], zero := [.t (.int .i64 0), .t (.int .i64 0), .nil, .nil, .t (.int .i64 0)] }
theorem ti72_ok : TIok Tryz.prog 72 ti72 := TIok.mk_ (z := .agg #[.int .i64 0, .int .i64 0, .slice none 0 0, .slice none 0 0, .int .i64 0]) (by kernel_rfl) rfl rfl Tryz.underlying72 rfl ⟨_, rfl, rfl, fieldsOk_of (by kernel_rfl)⟩ (by kernel_rfl) (fun h => by cases h)
def ti73 : TI := { size := 5, bytes := 72, agg := true, k := .st [(0, 3), (1, 3), (2, 27), (3, 31), (4, 3)], zero := [.t (.int .i64 0), .t (.int .i64 0), .nil, .nil, .t (.int .i64 0)] }
theorem ti73_ok : TIok Tryz.prog 73 ti73 := TIok.mk_ (z := .agg #[.int .i64 0, .int .i64 0, .slice none 0 0, .slice none 0 0, .int .i64 0]) (by kernel_rfl) rfl rfl Tryz.underlying73 rfl ⟨_, rfl, rfl, fieldsOk_of (by kernel_rfl)⟩ (by kernel_rfl) (fun h => by cases h)
def ti76 : TI := { size := 1, bytes := 24, agg := false, k := .sl 169, zero := [.nil] }
theorem ti76_ok : TIok Tryz.prog 76 ti76 := TIok.mk_ (z := .slice none 0 0) (by kernel_rfl) rfl rfl Tryz.underlying76 rfl rfl (by kernel_rfl) (fun h => by cases h)
def ti77 : TI := { size := 5, bytes := 56, agg := true, k := .st [(0, 3), (1, 3), (2, 3), (3, 76), (4, 3)], zero := [.t (.int .i64 0), .t (.int .i64 0), .t (.int .i64 0), .nil, .t (.int .i64 0)] }
theorem ti77_ok : TIok Tryz.prog 77 ti77 := TIok.mk_ (z := .agg #[.int .i64 0, .int .i64 0, .int .i64 0, .slice none 0 0, .int .i64 0]) (by kernel_rfl) rfl rfl Tryz.underlying77 rfl ⟨_, rfl, rfl, fieldsOk_of (by kernel_rfl)⟩ (by kernel_rfl) (fun h => by cases h)
def ti78 : TI := { size := 5, bytes := 56, agg := true, k := .st [(0, 3), (1, 3), (2, 3), (3, 76), (4, 3)], zero := [.t (.int .i64 0), .t (.int .i64 0), .t (.int .i64 0), .nil, .t (.int .i64 0)] }
theorem ti78_ok : TIok Tryz.prog 78 ti78 := TIok.mk_ (z := .agg #[.int .i64 0, .int .i64 0, .int .i64 0, .slice none 0 0, .int .i64 0]) (by kernel_rfl) rfl rfl Tryz.underlying78 rfl ⟨_, rfl, rfl, fieldsOk_of (by kernel_rfl)⟩ (by kernel_rfl) (fun h => by cases h)
def ti92 : TI := { size := 8, bytes := 96, agg := true, k := .st [(0, 3), (1, 3), (2, 3), (3, 3), (4, 63), (5, 3), (6, 63), (7, 3)], zero := [.t (.int .i64 0), .t (.int .i64 0), .t (.int .i64 0), .t (.int .i64 0), .nil, .t (.int .i64 0), .nil, .t (.int .i64 0)] }
theorem ti92_ok : TIok Tryz.prog 92 ti92 := TIok.mk_ (z := .agg #[.int .i64 0, .int .i64 0, .int .i64 0, .int .i64 0, .slice none 0 0, .int .i64 0, .slice none 0 0, .int .i64 0]) (by kernel_rfl) rfl rfl Tryz.underlying92 rfl ⟨_, rfl, rfl, fieldsOk_of (by kernel_rfl)⟩ (by kernel_rfl) (fun h => by cases h)
def ti93 : TI := { size := 8, bytes := 96, agg := true, k := .st [(0, 3), (1, 3), (2, 3), (3, 3), (4, 63), (5, 3), (6, 63), (7, 3)], zero := [.t (.int .i64 0), .t (.int .i64 0), .t (.int .i64 0), .t (.int .i64 0), .nil, .t (.int .i64 0), .nil, .t (.int .i64 0)] }
theorem ti93_ok : TIok Tryz.prog 93 ti93 := TIok.mk_ (z := .agg #[.int .i64 0, .int .i64 0, .int .i64 0, .int .i64 0, .slice none 0 0, .int .i64 0, .slice none 0 0, .int .i64 0]) (by kernel_rfl) rfl rfl Tryz.underlying93 rfl ⟨_, rfl, rfl, fieldsOk_of (by kernel_rfl)⟩ (by kernel_rfl) (fun h => by cases h)
def ti94 : TI := { size := 16, bytes := 192, agg := true, k := .st [(0, 93), (8, 93)], zero := [.t (.int .i64 0), .t (.int .i64 0), .t (.int .i64 0), .t (.int .i64 0), .nil, .t (.int .i64 0), .nil, .t (.int .i64 0), .t (.int .i64 0), .t (.int .i64 0), .t (.int .i64 0), .t (.int .i64 0), .nil, .t (.int .i64 0), .nil, .t (.int .i64 0)] }
theorem ti94_ok : TIok Tryz.prog 94 ti94 := TIok.mk_ (z := .agg #[.int .i64 0, .int .i64 0, .int .i64 0, .int .i64 0, .slice none 0 0, .int .i64 0, .slice none 0 0, .int .i64 0, .int .i64 0, .int .i64 0, .int .i64 0, .int .i64 0, .slice none 0 0, .int .i64 0, .slice none 0 0, .int .i64 0]) (by kernel_rfl) rfl rfl Tryz.underlying94 rfl ⟨_, rfl, rfl, fieldsOk_of (by kernel_rfl)⟩ (by kernel_rfl) (fun h => by cases h)
def ti95 : TI := { size := 16, bytes := 192, agg := true, k := .st [(0, 93), (8, 93)], zero := [.t (.int .i64 0), .t (.int .i64 0), .t (.int .i64 0), .t (.int .i64 0), .nil, .t (.int .i64 0), .nil, .t (.int .i64 0), .t (.int .i64 0), .t (.int .i64 0), .t (.int .i64 0), .t (.int .i64 0), .nil, .t (.int .i64 0), .nil, .t (.int .i64 0)] }
theorem ti95_ok : TIok Tryz.prog 95 ti95 := TIok.mk_ (z := .agg #[.int .i64 0, .int .i64 0, .int .i64 0, .int .i64 0, .slice none 0 0, .int .i64 0, .slice none 0 0, .int .i64 0, .int .i64 0, .int .i64 0, .int .i64 0, .int .i64 0, .slice none 0 0, .int .i64 0, .slice none 0 0, .int .i64 0]) (by kernel_rfl) rfl rfl Tryz.underlying95 rfl ⟨_, rfl, rfl, fieldsOk_of (by kernel_rfl)⟩ (by kernel_rfl) (fun h => by cases h)
def ti108 : TI := { size := 1, bytes := 24, agg := false, k := .sl 191, zero := [.nil] }
theorem ti108_ok : TIok Tryz.prog 108 ti108 := TIok.mk_ (z := .slice none 0 0) (by kernel_rfl) rfl rfl Tryz.underlying108 rfl rfl (by kernel_rfl) (fun h => by cases h)
def ti109 : TI := { size := 5, bytes := 56, agg := true, k := .st [(0, 3), (1, 3), (2, 3), (3, 108), (4, 3)], zero := [.t (.int .i64 0), .t (.int .i64 0), .t (.int .i64 0), .nil, .t (.int .i64 0)] }
theorem ti109_ok : TIok Tryz.prog 109 ti109 := TIok.mk_ (z := .agg #[.int .i64 0, .int .i64 0, .int .i64 0, .slice none 0 0, .int .i64 0]) (by kernel_rfl) rfl rfl Tryz.underlying109 rfl ⟨_, rfl, rfl, fieldsOk_of (by kernel_rfl)⟩ (by kernel_rfl) (fun h => by cases h)
def ti110 : TI := { size := 5, bytes := 56, agg := true, k := .st [(0, 3), (1, 3), (2, 3), (3, 108), (4, 3)], zero := [.t (.int .i64 0), .t (.int .i64 0), .t (.int .i64 0), .nil, .t (.int .i64 0)] }
theorem ti110_ok : TIok Tryz.prog 110 ti110 := TIok.mk_ (z := .agg #[.int .i64 0, .int .i64 0, .int .i64 0, .slice none 0 0, .int .i64 0]) (by kernel_rfl) rfl rfl Tryz.underlying110 rfl ⟨_, rfl, rfl, fieldsOk_of (by kernel_rfl)⟩ (by kernel_rfl) (fun h => by cases h)
def ti112 : TI := { size := 8, bytes := 96, agg := true, k := .st [(0, 3), (1, 3), (2, 3), (3, 3), (4, 63), (5, 3), (6, 63), (7, 3)], zero := [.t (.int .i64 0), .t (.int .i64 0), .t (.int .i64 0), .t (.int .i64 0), .nil, .t (.int .i64 0), .nil, .t (.int .i64 0)] }
theorem ti112_ok : TIok Tryz.prog 112 ti112 := TIok.mk_ (z := .agg #[.int .i64 0, .int .i64 0, .int .i64 0, .int .i64 0, .slice none 0 0, .int .i64 0, .slice none 0 0, .int .i64 0]) (by kernel_rfl) rfl rfl Tryz.underlying112 rfl ⟨_, rfl, rfl, fieldsOk_of (by kernel_rfl)⟩ (by kernel_rfl) (fun h => by cases h)
def ti113 : TI := { size := 16, bytes := 192, agg := true, k := .st [(0, 112), (8, 112)], zero := [.t (.int .i64 0), .t (.int .i64 0), .t (.int .i64 0), .t (.int .i64 0), .nil, .t (.int .i64 0), .nil, .t (.int .i64 0), .t (.int .i64 0), .t (.int .i64 0), .t (.int .i64 0), .t (.int .i64 0), .nil, .t (.int .i64 0), .nil, .t (.int .i64 0)] }
theorem ti113_ok : TIok Tryz.prog 113 ti113 := TIok.mk_ (z := .agg #[.int .i64 0, .int .i64 0, .int .i64 0, .int .i64 0, .slice none 0 0, .int .i64 0, .slice none 0 0, .int .i64 0, .int .i64 0, .int .i64 0, .int .i64 0, .int .i64 0, .slice none 0 0, .int .i64 0, .slice none 0 0, .int .i64 0]) (by kernel_rfl) rfl rfl Tryz.underlying113 rfl ⟨_, rfl, rfl, fieldsOk_of (by kernel_rfl)⟩ (by kernel_rfl) (fun h => by cases h)
def ti114 : TI := { size := 16, bytes := 192, agg := true, k := .st [(0, 112), (8, 112)], zero := [.t (.int .i64 0), .t (.int .i64 0), .t (.int .i64 0), .t (.int .i64 0), .nil, .t (.int .i64 0), .nil, .t (.int .i64 0), .t (.int .i64 0), .t (.int .i64 0), .t (.int .i64 0), .t (.int .i64 0), .nil, .t (.int .i64 0), .nil, .t (.int .i64 0)] }
theorem ti114_ok : TIok Tryz.prog 114 ti114 := TIok.mk_ (z := .agg #[.int .i64 0, .int .i64 0, .int .i64 0, .int .i64 0, .slice none 0 0, .int .i64 0, .slice none 0 0, .int .i64 0, .int .i64 0, .int .i64 0, .int .i64 0, .int .i64 0, .slice none 0 0, .int .i64 0, .slice none 0 0, .int .i64 0]) (by kernel_rfl) rfl rfl Tryz.underlying114 rfl ⟨_, rfl, rfl, fieldsOk_of (by kernel_rfl)⟩ (by kernel_rfl) (fun h => by cases h)
def ti121 : TI := { size := 2, bytes := 32, agg := true, k := .st [(0, 3), (1, 65)], zero := [.t (.int .i64 0), .nil] }
theorem ti121_ok : TIok Tryz.prog 121 ti121 := TIok.mk_ (z := .agg #[.int .i64 0, .slice none 0 0]) (by kernel_rfl) rfl rfl Tryz.underlying121 rfl ⟨_, rfl, rfl, fieldsOk_of (by kernel_rfl)⟩ (by kernel_rfl) (fun h => by cases h)
def ti122 : TI := { size := 2, bytes := 32, agg := true, k := .st [(0, 3), (1, 65)], zero := [.t (.int .i64 0), .nil] }
theorem ti122_ok : TIok Tryz.prog 122 ti122 := TIok.mk_ (z := .agg #[.int .i64 0, .slice none 0 0]) (by kernel_rfl) rfl rfl Tryz.underlying122 rfl ⟨_, rfl, rfl, fieldsOk_of (by kernel_rfl)⟩ (by kernel_rfl) (fun h => by cases h)
def ti150 : TI := { size := 1, bytes := 8, agg := false, k := .int .u64, zero := [.t (.int .u64 0)] }
theorem ti150_ok : TIok Tryz.prog 150 ti150 := TIok.mk_ (z := .int .u64 0) (by kernel_rfl) rfl rfl Tryz.underlying150 rfl rfl (by kernel_rfl) (fun h => by cases h)
def ti160 : TI := { size := 1, bytes := 24, agg := true, k := .st [(0, 63)], zero := [.nil] }
theorem ti160_ok : TIok Tryz.prog 160 ti160 := TIok.mk_ (z := .agg #[.slice none 0 0]) (by kernel_rfl) rfl rfl Tryz.underlying160 rfl ⟨_, rfl, rfl, fieldsOk_of (by kernel_rfl)⟩ (by kernel_rfl) (fun h => by cases h)
def ti161 : TI := { size := 2, bytes := 32, agg := true, k := .st [(0, 3), (1, 160)], zero := [.t (.int .i64 0), .nil] }
theorem ti161_ok : TIok Tryz.prog 161 ti161 := TIok.mk_ (z := .agg #[.int .i64 0, .slice none 0 0]) (by kernel_rfl) rfl rfl Tryz.underlying161 rfl ⟨_, rfl, rfl, fieldsOk_of (by kernel_rfl)⟩ (by kernel_rfl) (fun h => by cases h)
def ti162 : TI := { size := 2, bytes := 32, agg := true, k := .st [(0, 3), (1, 160)], zero := [.t (.int .i64 0), .nil] }
theorem ti162_ok : TIok Tryz.prog 162 ti162 := TIok.mk_ (z := .agg #[.int .i64 0, .slice none 0 0]) (by kernel_rfl) rfl rfl Tryz.underlying162 rfl ⟨_, rfl, rfl, fieldsOk_of (by kernel_rfl)⟩ (by kernel_rfl) (fun h => by cases h)
def ti168 : TI := { size := 2, bytes := 32, agg := true, k := .st [(0, 3), (1, 65)], zero := [.t (.int .i64 0), .nil] }
theorem ti168_ok : TIok Tryz.prog 168 ti168 := TIok.mk_ (z := .agg #[.int .i64 0, .slice none 0 0]) (by kernel_rfl) rfl rfl Tryz.underlying168 rfl ⟨_, rfl, rfl, fieldsOk_of (by kernel_rfl)⟩ (by kernel_rfl) (fun h => by cases h)
def ti169 : TI := { size := 2, bytes := 32, agg := true, k := .st [(0, 3), (1, 65)], zero := [.t (.int .i64 0), .nil] }
theorem ti169_ok : TIok Tryz.prog 169 ti169 := TIok.mk_ (z := .agg #[.int .i64 0, .slice none 0 0]) (by kernel_rfl) rfl rfl Tryz.underlying169 rfl ⟨_, rfl, rfl, fieldsOk_of (by kernel_rfl)⟩ (by kernel_rfl) (fun h => by cases h)
def ti182 : TI := { size := 2, bytes := 32, agg := true, k := .st [(0, 3), (1, 31)], zero := [.t (.int .i64 0), .nil] }
theorem ti182_ok : TIok Tryz.prog 182 ti182 := TIok.mk_ (z := .agg #[.int .i64 0, .slice none 0 0]) (by kernel_rfl) rfl rfl Tryz.underlying182 rfl ⟨_, rfl, rfl, fieldsOk_of (by kernel_rfl)⟩ (by kernel_rfl) (fun h => by cases h)
def ti183 : TI := { size := 2, bytes := 32, agg := true, k := .st [(0, 3), (1, 31)], zero := [.t (.int .i64 0), .nil] }
theorem ti183_ok : TIok Tryz.prog 183 ti183 := TIok.mk_ (z := .agg #[.int .i64 0, .slice none 0 0]) (by kernel_rfl) rfl rfl Tryz.underlying183 rfl ⟨_, rfl, rfl, fieldsOk_of (by kernel_rfl)⟩ (by kernel_rfl) (fun h => by cases h)
def ti190 : TI := { size := 2, bytes := 32, agg := true, k := .st [(0, 3), (1, 160)], zero := [.t (.int .i64 0), .nil] }
theorem ti190_ok : TIok Tryz.prog 190 ti190 := TIok.mk_ (z := .agg #[.int .i64 0, .slice none 0 0]) (by kernel_rfl) rfl rfl Tryz.underlying190 rfl ⟨_, rfl, rfl, fieldsOk_of (by kernel_rfl)⟩ (by kernel_rfl) (fun h => by cases h)
def ti191 : TI := { size := 2, bytes := 32, agg := true, k := .st [(0, 3), (1, 160)], zero := [.t (.int .i64 0), .nil] }
theorem ti191_ok : TIok Tryz.prog 191 ti191 := TIok.mk_ (z := .agg #[.int .i64 0, .slice none 0 0]) (by kernel_rfl) rfl rfl Tryz.underlying191 rfl ⟨_, rfl, rfl, fieldsOk_of (by kernel_rfl)⟩ (by kernel_rfl) (fun h => by cases h)
def ti213 : TI := { size := 1, bytes := 4, agg := false, k := .int .u32, zero := [.t (.int .u32 0)] }
theorem ti213_ok : TIok Tryz.prog 213 ti213 := TIok.mk_ (z := .int .u32 0) (by kernel_rfl) rfl rfl Tryz.underlying213 rfl rfl (by kernel_rfl) (fun h => by cases h)
def tys : List (Nat × TI) := [(2, ti2), (3, ti3), (4, ti4), (5, ti5), (9, ti9), (12, ti12), (13, ti13), (21, ti21), (22, ti22), (23, ti23), (24, ti24), (25, ti25), (26, ti26), (27, ti27), (28, ti28), (29, ti29), (31, ti31), (34, ti34), (35, ti35), (36, ti36), (37, ti37), (38, ti38), (39, ti39), (40, ti40), (47, ti47), (63, ti63), (64, ti64), (65, ti65), (68, ti68), (69, ti69), (72, ti72), (73, ti73), (76, ti76), (77, ti77), (78, ti78), (92, ti92), (93, ti93), (94, ti94), (95, ti95), (108, ti108), (109, ti109), (110, ti110), (112, ti112), (113, ti113), (114, ti114), (121, ti121), (122, ti122), (150, ti150), (160, ti160), (161, ti161), (162, ti162), (168, ti168), (169, ti169), (182, ti182), (183, ti183), (190, ti190), (191, ti191), (213, ti213)]
theorem tys_ok : TOk Tryz.prog (get tys) :=
  tok_of (by
    intro p hp
    simp only [tys, List.mem_cons, List.not_mem_nil, or_false] at hp
    rcases hp with rfl | rfl | rfl | rfl | rfl | rfl | rfl | rfl | rfl | rfl | rfl | rfl | rfl | rfl | rfl | rfl | rfl | rfl | rfl | rfl | rfl | rfl | rfl | rfl | rfl | rfl | rfl | rfl | rfl | rfl | rfl | rfl | rfl | rfl | rfl | rfl | rfl | rfl | rfl | rfl | rfl | rfl | rfl | rfl | rfl | rfl | rfl | rfl | rfl | rfl | rfl | rfl | rfl | rfl | rfl | rfl | rfl | rfl
    · exact ti2_ok
    · exact ti3_ok
    · exact ti4_ok
    · exact ti5_ok
    · exact ti9_ok
    · exact ti12_ok
    · exact ti13_ok
    · exact ti21_ok
    · exact ti22_ok
    · exact ti23_ok
    · exact ti24_ok
    · exact ti25_ok
    · exact ti26_ok
    · exact ti27_ok
    · exact ti28_ok
    · exact ti29_ok
    · exact ti31_ok
    · exact ti34_ok
    · exact ti35_ok
    · exact ti36_ok
    · exact ti37_ok
    · exact ti38_ok
    · exact ti39_ok
    · exact ti40_ok
    · exact ti47_ok
    · exact ti63_ok
    · exact ti64_ok
    · exact ti65_ok
    · exact ti68_ok
    · exact ti69_ok
    · exact ti72_ok
    · exact ti73_ok
    · exact ti76_ok
    · exact ti77_ok
    · exact ti78_ok
    · exact ti92_ok
    · exact ti93_ok
    · exact ti94_ok
    · exact ti95_ok
    · exact ti108_ok
    · exact ti109_ok
    · exact ti110_ok
    · exact ti112_ok
    · exact ti113_ok
    · exact ti114_ok
    · exact ti121_ok
    · exact ti122_ok
    · exact ti150_ok
    · exact ti160_ok
    · exact ti161_ok
    · exact ti162_ok
    · exact ti168_ok
    · exact ti169_ok
    · exact ti182_ok
    · exact ti183_ok
    · exact ti190_ok
    · exact ti191_ok
    · exact ti213_ok)
/-- The contract of a function of this program, from the evaluation of its body. -/
theorem fn_of {f : FuncId} {fn : Func} {c : Code} (hf : Tryz.prog.funcs[f]? = some fn) (hb : fn.body = some c) (hn : (fn.name == "runtime.NumGoroutine") = false) {args : List V} {rs : List RV} (hlen : Nat.ble args.length fn.ntmps = true)
    (h : ev Tryz.prog (get tys) fn.ntmps c (retK (get tys) fn.results.toList rs) ⟨initEnv 0 args, [], 0⟩) : FnAt Tryz.prog f args rs :=
  fnAt_of tys_ok (by kernel_rfl) hf hb hn hlen h
/-- The same for one that writes in place. -/
theorem mut_of {f : FuncId} {fn : Func} {c : Code} (hf : Tryz.prog.funcs[f]? = some fn) (hb : fn.body = some c) (hn : (fn.name == "runtime.NumGoroutine") = false) {m m' : RV} {xs : List V} {y : T} (hlen : Nat.ble (xs.length + 1) fn.ntmps = true)
    (has : ∀ x ∈ xs, ∃ z, x = .one z ∧ isScal z = true) (hy : isScal y = true) (h : ev Tryz.prog (get tys) fn.ntmps c (retM (get tys) fn.results.toList m' y) (mSt m xs)) : MutAt Tryz.prog f m m' xs y :=
  mutAt_of tys_ok (by kernel_rfl) hf hb hn hlen has hy h
/-- The same for one that is called with a pointer to a box. -/
theorem cur_of {f : FuncId} {fn : Func} {c : Code} (hf : Tryz.prog.funcs[f]? = some fn) (hb : fn.body = some c) (hn : (fn.name == "runtime.NumGoroutine") = false) {cs cs' : List T} {xs : List V} {rs : List RV} (hlen : Nat.ble (xs.length + 1) fn.ntmps = true)
    (h : ev Tryz.prog (get tys) fn.ntmps c (retC (get tys) fn.results.toList cs' rs) (cSt cs xs)) : CurAt Tryz.prog f cs cs' xs rs :=
  cur_of_ev tys_ok (by kernel_rfl) hf hb hn hlen h
/-- A call that is walked in place. -/
theorem jat_ {f : FuncId} {fn : Func} {c : Code} (hf : Tryz.prog.funcs[f]? = some fn) (hb : fn.body = some c) (hn : (fn.name == "runtime.NumGoroutine") = false) {avs : List AV} {σ : St} {K : AV → St → Prop} (hlen : Nat.ble avs.length fn.ntmps = true) (hav : avs.all noPin = true)
    (h : ev Tryz.prog (get tys) fn.ntmps c (retJ (get tys) fn.ntmps fn.results.toList K) ⟨jEnv fn.ntmps avs σ.env, σ.objs, σ.next⟩) : JAt Tryz.prog f avs σ K :=
  jat_of tys_ok (by kernel_rfl) hf hb hn hlen hav h
end Go.Proofs.YtdbgmncapignoaaGreat
