/-
  The table of this seat's types for the program logic, written by a program of ours off the translation; each entry is held against the program by the kernel.
  Conditions: none.
-/
import Derived.Test.YtmkgakabmffibaaGreatProg
import Derived.Test.YtmkgakabmffibaaGreatVmP
import Derived.Test.YtmkgakabmffibaaGreatVmU
namespace Go.Proofs.YtmkgakabmffibaaGreat
open Go.Vm Go.RowKit

def ti2 : TI := { size := 1, bytes := 8, agg := false, k := .int .i64, zero := [.t (.int .i64 0)] }
theorem ti2_ok : TIok Tryz.prog 2 ti2 := TIok.mk_ (z := .int .i64 0) (by kernel_rfl) rfl rfl Tryz.underlying2 rfl rfl (by kernel_rfl) (fun h => by cases h)
def ti3 : TI := { size := 1, bytes := 8, agg := false, k := .int .i64, zero := [.t (.int .i64 0)] }
theorem ti3_ok : TIok Tryz.prog 3 ti3 := TIok.mk_ (z := .int .i64 0) (by kernel_rfl) rfl rfl Tryz.underlying3 rfl rfl (by kernel_rfl) (fun h => by cases h)
def ti4 : TI := { size := 1, bytes := 1, agg := false, k := .bool, zero := [.t (.bool false)] }
theorem ti4_ok : TIok Tryz.prog 4 ti4 := TIok.mk_ (z := .bool false) (by kernel_rfl) rfl rfl Tryz.underlying4 rfl rfl (by kernel_rfl) (fun h => by cases h)
def ti5 : TI := { size := 1, bytes := 1, agg := false, k := .int .u8, zero := [.t (.int .u8 0)] }
theorem ti5_ok : TIok Tryz.prog 5 ti5 := TIok.mk_ (z := .int .u8 0) (by kernel_rfl) rfl rfl Tryz.underlying5 rfl rfl (by kernel_rfl) (fun h => by cases h)
def ti9 : TI := { size := 1, bytes := 16, agg := false, k := .str, zero := [.t (.str ByteArray.empty)] }
theorem ti9_ok : TIok Tryz.prog 9 ti9 := TIok.mk_ (z := .string ByteArray.empty) (by kernel_rfl) rfl rfl Tryz.underlying9 rfl rfl (by kernel_rfl) (fun h => by cases h)
def ti12 : TI := { size := 1, bytes := 8, agg := false, k := .int .u64, zero := [.t (.int .u64 0)] }
theorem ti12_ok : TIok Tryz.prog 12 ti12 := TIok.mk_ (z := .int .u64 0) (by kernel_rfl) rfl rfl Tryz.underlying12 rfl rfl (by kernel_rfl) (fun h => by cases h)
def ti13 : TI := { size := 2, bytes := 24, agg := true, k := .st [(0, 9), (1, 12)], zero := [.t (.str ByteArray.empty), .t (.int .u64 0)] }
theorem ti13_ok : TIok Tryz.prog 13 ti13 := TIok.mk_ (z := .agg #[.string ByteArray.empty, .int .u64 0]) (by kernel_rfl) rfl rfl Tryz.underlying13 rfl ⟨_, rfl, rfl, fieldsOk_of (by kernel_rfl)⟩ (by kernel_rfl) (fun h => by cases h)
def ti21 : TI := { size := 1, bytes := 4, agg := false, k := .int .i32, zero := [.t (.int .i32 0)] }
theorem ti21_ok : TIok Tryz.prog 21 ti21 := TIok.mk_ (z := .int .i32 0) (by kernel_rfl) rfl rfl Tryz.underlying21 rfl rfl (by kernel_rfl) (fun h => by cases h)
def ti22 : TI := { size := 1, bytes := 24, agg := false, k := .sl 85, zero := [.nil] }
theorem ti22_ok : TIok Tryz.prog 22 ti22 := TIok.mk_ (z := .slice none 0 0) (by kernel_rfl) rfl rfl Tryz.underlying22 rfl rfl (by kernel_rfl) (fun h => by cases h)
def ti23 : TI := { size := 1, bytes := 24, agg := false, k := .sl 89, zero := [.nil] }
theorem ti23_ok : TIok Tryz.prog 23 ti23 := TIok.mk_ (z := .slice none 0 0) (by kernel_rfl) rfl rfl Tryz.underlying23 rfl rfl (by kernel_rfl) (fun h => by cases h)
def ti24 : TI := { size := 1, bytes := 24, agg := false, k := .sl 117, zero := [.nil] }
theorem ti24_ok : TIok Tryz.prog 24 ti24 := TIok.mk_ (z := .slice none 0 0) (by kernel_rfl) rfl rfl Tryz.underlying24 rfl rfl (by kernel_rfl) (fun h => by cases h)
def ti25 : TI := { size := 2, bytes := 32, agg := true, k := .st [(0, 3), (1, 24)], zero := [.t (.int .i64 0), .nil] }
theorem ti25_ok : TIok Tryz.prog 25 ti25 := TIok.mk_ (z := .agg #[.int .i64 0, .slice none 0 0]) (by kernel_rfl) rfl rfl Tryz.underlying25 rfl ⟨_, rfl, rfl, fieldsOk_of (by kernel_rfl)⟩ (by kernel_rfl) (fun h => by cases h)
def ti26 : TI := { size := 2, bytes := 32, agg := true, k := .st [(0, 3), (1, 24)], zero := [.t (.int .i64 0), .nil] }
theorem ti26_ok : TIok Tryz.prog 26 ti26 := TIok.mk_ (z := .agg #[.int .i64 0, .slice none 0 0]) (by kernel_rfl) rfl rfl Tryz.underlying26 rfl ⟨_, rfl, rfl, fieldsOk_of (by kernel_rfl)⟩ (by kernel_rfl) (fun h => by cases h)
def ti27 : TI := { size := 1, bytes := 24, agg := false, k := .sl 3, zero := [.nil] }
theorem ti27_ok : TIok Tryz.prog 27 ti27 := TIok.mk_ (z := .slice none 0 0) (by kernel_rfl) rfl rfl Tryz.underlying27 rfl rfl (by kernel_rfl) (fun h => by cases h)
def ti28 : TI := { size := 10, bytes := 144, agg := true, k := .st [(0, 3), (1, 22), (2, 23), (3, 26), (5, 3), (6, 3), (7, 3), (8, 27), (9, 3)], zero := [.t (.int .i64 0), .nil, .nil, .t (.int .i64 0), .nil, .t (.int .i64 0), .t (.int .i64 0), .t (.int .i64 0), .nil, .t (.int .i64 0)] }
theorem ti28_ok : TIok Tryz.prog 28 ti28 := TIok.mk_ (z := .agg #[.int .i64 0, .slice none 0 0, .slice none 0 0, .int .i64 0, .slice none 0 0, .int .i64 0, .int .i64 0, .int .i64 0, .slice none 0 0, .int .i64 0]) (by kernel_rfl) rfl rfl Tryz.underlying28 rfl ⟨_, rfl, rfl, fieldsOk_of (by kernel_rfl)⟩ (by kernel_rfl) (fun h => by cases h)
def ti29 : TI := { size := 10, bytes := 144, agg := true, k := .st [(0, 3), (1, 22), (2, 23), (3, 26), (5, 3), (6, 3), (7, 3), (8, 27), (9, 3)], zero := [.t (.int .i64 0), .nil, .nil, .t (.int .i64 0), .nil, .t (.int .i64 0), .t (.int .i64 0), .t (.int .i64 0), .nil, .t (.int .i64 0)] }
theorem ti29_ok : TIok Tryz.prog 29 ti29 := TIok.mk_ (z := .agg #[.int .i64 0, .slice none 0 0, .slice none 0 0, .int .i64 0, .slice none 0 0, .int .i64 0, .int .i64 0, .int .i64 0, .slice none 0 0, .int .i64 0]) (by kernel_rfl) rfl rfl Tryz.underlying29 rfl ⟨_, rfl, rfl, fieldsOk_of (by kernel_rfl)⟩ (by kernel_rfl) (fun h => by cases h)
def ti31 : TI := { size := 1, bytes := 24, agg := false, k := .sl 61, zero := [.nil] }
theorem ti31_ok : TIok Tryz.prog 31 ti31 := TIok.mk_ (z := .slice none 0 0) (by kernel_rfl) rfl rfl Tryz.underlying31 rfl rfl (by kernel_rfl) (fun h => by cases h)
def ti32 : TI := { size := 1, bytes := 24, agg := false, k := .sl 77, zero := [.nil] }
theorem ti32_ok : TIok Tryz.prog 32 ti32 := TIok.mk_ (z := .slice none 0 0) (by kernel_rfl) rfl rfl Tryz.underlying32 rfl rfl (by kernel_rfl) (fun h => by cases h)
def ti33 : TI := { size := 1, bytes := 24, agg := false, k := .sl 124, zero := [.nil] }
theorem ti33_ok : TIok Tryz.prog 33 ti33 := TIok.mk_ (z := .slice none 0 0) (by kernel_rfl) rfl rfl Tryz.underlying33 rfl rfl (by kernel_rfl) (fun h => by cases h)
def ti34 : TI := { size := 2, bytes := 32, agg := true, k := .st [(0, 3), (1, 33)], zero := [.t (.int .i64 0), .nil] }
theorem ti34_ok : TIok Tryz.prog 34 ti34 := TIok.mk_ (z := .agg #[.int .i64 0, .slice none 0 0]) (by kernel_rfl) rfl rfl Tryz.underlying34 rfl ⟨_, rfl, rfl, fieldsOk_of (by kernel_rfl)⟩ (by kernel_rfl) (fun h => by cases h)
def ti35 : TI := { size := 2, bytes := 32, agg := true, k := .st [(0, 3), (1, 33)], zero := [.t (.int .i64 0), .nil] }
theorem ti35_ok : TIok Tryz.prog 35 ti35 := TIok.mk_ (z := .agg #[.int .i64 0, .slice none 0 0]) (by kernel_rfl) rfl rfl Tryz.underlying35 rfl ⟨_, rfl, rfl, fieldsOk_of (by kernel_rfl)⟩ (by kernel_rfl) (fun h => by cases h)
def ti36 : TI := { size := 10, bytes := 144, agg := true, k := .st [(0, 3), (1, 31), (2, 32), (3, 35), (5, 3), (6, 3), (7, 3), (8, 27), (9, 3)], zero := [.t (.int .i64 0), .nil, .nil, .t (.int .i64 0), .nil, .t (.int .i64 0), .t (.int .i64 0), .t (.int .i64 0), .nil, .t (.int .i64 0)] }
theorem ti36_ok : TIok Tryz.prog 36 ti36 := TIok.mk_ (z := .agg #[.int .i64 0, .slice none 0 0, .slice none 0 0, .int .i64 0, .slice none 0 0, .int .i64 0, .int .i64 0, .int .i64 0, .slice none 0 0, .int .i64 0]) (by kernel_rfl) rfl rfl Tryz.underlying36 rfl ⟨_, rfl, rfl, fieldsOk_of (by kernel_rfl)⟩ (by kernel_rfl) (fun h => by cases h)
def ti37 : TI := { size := 10, bytes := 144, agg := true, k := .st [(0, 3), (1, 31), (2, 32), (3, 35), (5, 3), (6, 3), (7, 3), (8, 27), (9, 3)], zero := [.t (.int .i64 0), .nil, .nil, .t (.int .i64 0), .nil, .t (.int .i64 0), .t (.int .i64 0), .t (.int .i64 0), .nil, .t (.int .i64 0)] }
theorem ti37_ok : TIok Tryz.prog 37 ti37 := TIok.mk_ (z := .agg #[.int .i64 0, .slice none 0 0, .slice none 0 0, .int .i64 0, .slice none 0 0, .int .i64 0, .int .i64 0, .int .i64 0, .slice none 0 0, .int .i64 0]) (by kernel_rfl) rfl rfl Tryz.underlying37 rfl ⟨_, rfl, rfl, fieldsOk_of (by kernel_rfl)⟩ (by kernel_rfl) (fun h => by cases h)
def ti46 : TI := { size := 1, bytes := 24, agg := false, k := .sl 5, zero := [.nil] }
theorem ti46_ok : TIok Tryz.prog 46 ti46 := TIok.mk_ (z := .slice none 0 0) (by kernel_rfl) rfl rfl Tryz.underlying46 rfl rfl (by kernel_rfl) (fun h => by cases h)
def ti59 : TI := { size := 1, bytes := 24, agg := false, k := .sl 120, zero := [.nil] }
theorem ti59_ok : TIok Tryz.prog 59 ti59 := TIok.mk_ (z := .slice none 0 0) (by kernel_rfl) rfl rfl Tryz.underlying59 rfl rfl (by kernel_rfl) (fun h => by cases h)
def ti60 : TI := { size := 5, bytes := 56, agg := true, k := .st [(0, 3), (1, 3), (2, 3), (3, 59), (4, 3)], zero := [.t (.int .i64 0), .t (.int .i64 0), .t (.int .i64 0), .nil, .t (.int .i64 0)] }
theorem ti60_ok : TIok Tryz.prog 60 ti60 := TIok.mk_ (z := .agg #[.int .i64 0, .int .i64 0, .int .i64 0, .slice none 0 0, .int .i64 0]) (by kernel_rfl) rfl rfl Tryz.underlying60 rfl ⟨_, rfl, rfl, fieldsOk_of (by kernel_rfl)⟩ (by kernel_rfl) (fun h => by cases h)
def ti61 : TI := { size := 5, bytes := 56, agg := true, k := .st [(0, 3), (1, 3), (2, 3), (3, 59), (4, 3)], zero := [.t (.int .i64 0), .t (.int .i64 0), .t (.int .i64 0), .nil, .t (.int .i64 0)] }
theorem ti61_ok : TIok Tryz.prog 61 ti61 := TIok.mk_ (z := .agg #[.int .i64 0, .int .i64 0, .int .i64 0, .slice none 0 0, .int .i64 0]) (by kernel_rfl) rfl rfl Tryz.underlying61 rfl ⟨_, rfl, rfl, fieldsOk_of (by kernel_rfl)⟩ (by kernel_rfl) (fun h => by cases h)
def ti73 : TI := { size := 1, bytes := 24, agg := false, k := .sl 46, zero := [.nil] }
theorem ti73_ok : TIok Tryz.prog 73 ti73 := TIok.mk_ (z := .slice none 0 0) (by kernel_rfl) rfl rfl Tryz.underlying73 rfl rfl (by kernel_rfl) (fun h => by cases h)
def ti74 : TI := { size := 8, bytes := 96, agg := true, k := .st [(0, 3), (1, 3), (2, 3), (3, 3), (4, 73), (5, 3), (6, 73), (7, 3)], zero := [.t (.int .i64 0), .t (.int .i64 0), .t (.int .i64 0), .t (.int .i64 0), .nil, .t (.int .i64 0), .nil, .t (.int .i64 0)] }
theorem ti74_ok : TIok Tryz.prog 74 ti74 := TIok.mk_ (z := .agg #[.int .i64 0, .int .i64 0, .int .i64 0, .int .i64 0, .slice none 0 0, .int .i64 0, .slice none 0 0, .int .i64 0]) (by kernel_rfl) rfl rfl Tryz.underlying74 rfl ⟨_, rfl, rfl, fieldsOk_of (by kernel_rfl)⟩ (by kernel_rfl) (fun h => by cases h)
def ti75 : TI := { size := 8, bytes := 96, agg := true, k := .st [(0, 3), (1, 3), (2, 3), (3, 3), (4, 73), (5, 3), (6, 73), (7, 3)], zero := [.t (.int .i64 0), .t (.int .i64 0), .t (.int .i64 0), .t (.int .i64 0), .nil, .t (.int .i64 0), .nil, .t (.int .i64 0)] }
theorem ti75_ok : TIok Tryz.prog 75 ti75 := TIok.mk_ (z := .agg #[.int .i64 0, .int .i64 0, .int .i64 0, .int .i64 0, .slice none 0 0, .int .i64 0, .slice none 0 0, .int .i64 0]) (by kernel_rfl) rfl rfl Tryz.underlying75 rfl ⟨_, rfl, rfl, fieldsOk_of (by kernel_rfl)⟩ (by kernel_rfl) (fun h => by cases h)
def ti76 : TI := { size := 16, bytes := 192, agg := true, k := .st [(0, 75), (8, 75)], zero := [.t (.int .i64 0), .t (.int .i64 0), .t (.int .i64 0), .t (.int .i64 0), .nil, .t (.int .i64 0), .nil, .t (.int .i64 0), .t (.int .i64 0), .t (.int .i64 0), .t (.int .i64 0), .t (.int .i64 0), .nil, .t (.int .i64 0), .nil, .t (.int .i64 0)] }
theorem ti76_ok : TIok Tryz.prog 76 ti76 := TIok.mk_ (z := .agg #[.int .i64 0, .int .i64 0, .int .i64 0, .int .i64 0, .slice none 0 0, .int .i64 0, .slice none 0 0, .int .i64 0, .int .i64 0, .int .i64 0, .int .i64 0, .int .i64 0, .slice none 0 0, .int .i64 0, .slice none 0 0, .int .i64 0]) (by kernel_rfl) rfl rfl Tryz.underlying76 rfl ⟨_, rfl, rfl, fieldsOk_of (by kernel_rfl)⟩ (by kernel_rfl) (fun h => by cases h)
def ti77 : TI := { size := 16, bytes := 192, agg := true, k := .st [(0, 75), (8, 75)], zero := [.t (.int .i64 0), .t (.int .i64 0), .t (.int .i64 0), .t (.int .i64 0), .nil, .t (.int .i64 0), .nil, .t (.int .i64 0), .t (.int .i64 0), .t (.int .i64 0), .t (.int .i64 0), .t (.int .i64 0), .nil, .t (.int .i64 0), .nil, .t (.int .i64 0)] }
theorem ti77_ok : TIok Tryz.prog 77 ti77 := TIok.mk_ (z := .agg #[.int .i64 0, .int .i64 0, .int .i64 0, .int .i64 0, .slice none 0 0, .int .i64 0, .slice none 0 0, .int .i64 0, .int .i64 0, .int .i64 0, .int .i64 0, .int .i64 0, .slice none 0 0, .int .i64 0, .slice none 0 0, .int .i64 0]) (by kernel_rfl) rfl rfl Tryz.underlying77 rfl ⟨_, rfl, rfl, fieldsOk_of (by kernel_rfl)⟩ (by kernel_rfl) (fun h => by cases h)
def ti83 : TI := { size := 1, bytes := 24, agg := false, k := .sl 136, zero := [.nil] }
theorem ti83_ok : TIok Tryz.prog 83 ti83 := TIok.mk_ (z := .slice none 0 0) (by kernel_rfl) rfl rfl Tryz.underlying83 rfl rfl (by kernel_rfl) (fun h => by cases h)
def ti84 : TI := { size := 5, bytes := 56, agg := true, k := .st [(0, 3), (1, 3), (2, 3), (3, 83), (4, 3)], zero := [.t (.int .i64 0), .t (.int .i64 0), .t (.int .i64 0), .nil, .t (.int .i64 0)] }
theorem ti84_ok : TIok Tryz.prog 84 ti84 := TIok.mk_ (z := .agg #[.int .i64 0, .int .i64 0, .int .i64 0, .slice none 0 0, .int .i64 0]) (by kernel_rfl) rfl rfl Tryz.underlying84 rfl ⟨_, rfl, rfl, fieldsOk_of (by kernel_rfl)⟩ (by kernel_rfl) (fun h => by cases h)
def ti85 : TI := { size := 5, bytes := 56, agg := true, k := .st [(0, 3), (1, 3), (2, 3), (3, 83), (4, 3)], zero := [.t (.int .i64 0), .t (.int .i64 0), .t (.int .i64 0), .nil, .t (.int .i64 0)] }
theorem ti85_ok : TIok Tryz.prog 85 ti85 := TIok.mk_ (z := .agg #[.int .i64 0, .int .i64 0, .int .i64 0, .slice none 0 0, .int .i64 0]) (by kernel_rfl) rfl rfl Tryz.underlying85 rfl ⟨_, rfl, rfl, fieldsOk_of (by kernel_rfl)⟩ (by kernel_rfl) (fun h => by cases h)
def ti87 : TI := { size := 8, bytes := 96, agg := true, k := .st [(0, 3), (1, 3), (2, 3), (3, 3), (4, 73), (5, 3), (6, 73), (7, 3)], zero := [.t (.int .i64 0), .t (.int .i64 0), .t (.int .i64 0), .t (.int .i64 0), .nil, .t (.int .i64 0), .nil, .t (.int .i64 0)] }
theorem ti87_ok : TIok Tryz.prog 87 ti87 := TIok.mk_ (z := .agg #[.int .i64 0, .int .i64 0, .int .i64 0, .int .i64 0, .slice none 0 0, .int .i64 0, .slice none 0 0, .int .i64 0]) (by kernel_rfl) rfl rfl Tryz.underlying87 rfl ⟨_, rfl, rfl, fieldsOk_of (by kernel_rfl)⟩ (by kernel_rfl) (fun h => by cases h)
def ti88 : TI := { size := 16, bytes := 192, agg := true, k := .st [(0, 87), (8, 87)], zero := [.t (.int .i64 0), .t (.int .i64 0), .t (.int .i64 0), .t (.int .i64 0), .nil, .t (.int .i64 0), .nil, .t (.int .i64 0), .t (.int .i64 0), .t (.int .i64 0), .t (.int .i64 0), .t (.int .i64 0), .nil, .t (.int .i64 0), .nil, .t (.int .i64 0)] }
theorem ti88_ok : TIok Tryz.prog 88 ti88 := TIok.mk_ (z := .agg #[.int .i64 0, .int .i64 0, .int .i64 0, .int .i64 0, .slice none 0 0, .int .i64 0, .slice none 0 0, .int .i64 0, .int .i64 0, .int .i64 0, .int .i64 0, .int .i64 0, .slice none 0 0, .int .i64 0, .slice none 0 0, .int .i64 0]) (by kernel_rfl) rfl rfl Tryz.underlying88 rfl ⟨_, rfl, rfl, fieldsOk_of (by kernel_rfl)⟩ (by kernel_rfl) (fun h => by cases h)
def ti89 : TI := { size := 16, bytes := 192, agg := true, k := .st [(0, 87), (8, 87)], zero := [.t (.int .i64 0), .t (.int .i64 0), .t (.int .i64 0), .t (.int .i64 0), .nil, .t (.int .i64 0), .nil, .t (.int .i64 0), .t (.int .i64 0), .t (.int .i64 0), .t (.int .i64 0), .t (.int .i64 0), .nil, .t (.int .i64 0), .nil, .t (.int .i64 0)] }
theorem ti89_ok : TIok Tryz.prog 89 ti89 := TIok.mk_ (z := .agg #[.int .i64 0, .int .i64 0, .int .i64 0, .int .i64 0, .slice none 0 0, .int .i64 0, .slice none 0 0, .int .i64 0, .int .i64 0, .int .i64 0, .int .i64 0, .int .i64 0, .slice none 0 0, .int .i64 0, .slice none 0 0, .int .i64 0]) (by kernel_rfl) rfl rfl Tryz.underlying89 rfl ⟨_, rfl, rfl, fieldsOk_of (by kernel_rfl)⟩ (by kernel_rfl) (fun h => by cases h)
def ti114 : TI := { size := 1, bytes := 24, agg := true, k := .st [(0, 73)], zero := [.nil] }
theorem ti114_ok : TIok Tryz.prog 114 ti114 := TIok.mk_ (z := .agg #[.slice none 0 0]) (by kernel_rfl) rfl rfl Tryz.underlying114 rfl ⟨_, rfl, rfl, fieldsOk_of (by kernel_rfl)⟩ (by kernel_rfl) (fun h => by cases h)
def ti115 : TI := { size := 1, bytes := 24, agg := true, k := .st [(0, 73)], zero := [.nil] }
theorem ti115_ok : TIok Tryz.prog 115 ti115 := TIok.mk_ (z := .agg #[.slice none 0 0]) (by kernel_rfl) rfl rfl Tryz.underlying115 rfl ⟨_, rfl, rfl, fieldsOk_of (by kernel_rfl)⟩ (by kernel_rfl) (fun h => by cases h)
def ti116 : TI := { size := 2, bytes := 32, agg := true, k := .st [(0, 3), (1, 115)], zero := [.t (.int .i64 0), .nil] }
theorem ti116_ok : TIok Tryz.prog 116 ti116 := TIok.mk_ (z := .agg #[.int .i64 0, .slice none 0 0]) (by kernel_rfl) rfl rfl Tryz.underlying116 rfl ⟨_, rfl, rfl, fieldsOk_of (by kernel_rfl)⟩ (by kernel_rfl) (fun h => by cases h)
def ti117 : TI := { size := 2, bytes := 32, agg := true, k := .st [(0, 3), (1, 115)], zero := [.t (.int .i64 0), .nil] }
theorem ti117_ok : TIok Tryz.prog 117 ti117 := TIok.mk_ (z := .agg #[.int .i64 0, .slice none 0 0]) (by kernel_rfl) rfl rfl Tryz.underlying117 rfl ⟨_, rfl, rfl, fieldsOk_of (by kernel_rfl)⟩ (by kernel_rfl) (fun h => by cases h)
def ti118 : TI := { size := 1, bytes := 24, agg := true, k := .st [(0, 73)], zero := [.nil] }
theorem ti118_ok : TIok Tryz.prog 118 ti118 := TIok.mk_ (z := .agg #[.slice none 0 0]) (by kernel_rfl) rfl rfl Tryz.underlying118 rfl ⟨_, rfl, rfl, fieldsOk_of (by kernel_rfl)⟩ (by kernel_rfl) (fun h => by cases h)
def ti119 : TI := { size := 2, bytes := 32, agg := true, k := .st [(0, 3), (1, 118)], zero := [.t (.int .i64 0), .nil] }
theorem ti119_ok : TIok Tryz.prog 119 ti119 := TIok.mk_ (z := .agg #[.int .i64 0, .slice none 0 0]) (by kernel_rfl) rfl rfl Tryz.underlying119 rfl ⟨_, rfl, rfl, fieldsOk_of (by kernel_rfl)⟩ (by kernel_rfl) (fun h => by cases h)
def ti120 : TI := { size := 2, bytes := 32, agg := true, k := .st [(0, 3), (1, 118)], zero := [.t (.int .i64 0), .nil] }
theorem ti120_ok : TIok Tryz.prog 120 ti120 := TIok.mk_ (z := .agg #[.int .i64 0, .slice none 0 0]) (by kernel_rfl) rfl rfl Tryz.underlying120 rfl ⟨_, rfl, rfl, fieldsOk_of (by kernel_rfl)⟩ (by kernel_rfl) (fun h => by cases h)
def ti123 : TI := { size := 2, bytes := 32, agg := true, k := .st [(0, 3), (1, 118)], zero := [.t (.int .i64 0), .nil] }
theorem ti123_ok : TIok Tryz.prog 123 ti123 := TIok.mk_ (z := .agg #[.int .i64 0, .slice none 0 0]) (by kernel_rfl) rfl rfl Tryz.underlying123 rfl ⟨_, rfl, rfl, fieldsOk_of (by kernel_rfl)⟩ (by kernel_rfl) (fun h => by cases h)
def ti124 : TI := { size := 2, bytes := 32, agg := true, k := .st [(0, 3), (1, 118)], zero := [.t (.int .i64 0), .nil] }
theorem ti124_ok : TIok Tryz.prog 124 ti124 := TIok.mk_ (z := .agg #[.int .i64 0, .slice none 0 0]) (by kernel_rfl) rfl rfl Tryz.underlying124 rfl ⟨_, rfl, rfl, fieldsOk_of (by kernel_rfl)⟩ (by kernel_rfl) (fun h => by cases h)
def ti135 : TI := { size := 2, bytes := 32, agg := true, k := .st [(0, 3), (1, 115)], zero := [.t (.int .i64 0), .nil] }
theorem ti135_ok : TIok Tryz.prog 135 ti135 := TIok.mk_ (z := .agg #[.int .i64 0, .slice none 0 0]) (by kernel_rfl) rfl rfl Tryz.underlying135 rfl ⟨_, rfl, rfl, fieldsOk_of (by kernel_rfl)⟩ (by kernel_rfl) (fun h => by cases h)
def ti136 : TI := { size := 2, bytes := 32, agg := true, k := .st [(0, 3), (1, 115)], zero := [.t (.int .i64 0), .nil] }
theorem ti136_ok : TIok Tryz.prog 136 ti136 := TIok.mk_ (z := .agg #[.int .i64 0, .slice none 0 0]) (by kernel_rfl) rfl rfl Tryz.underlying136 rfl ⟨_, rfl, rfl, fieldsOk_of (by kernel_rfl)⟩ (by kernel_rfl) (fun h => by cases h)
def ti155 : TI := { size := 1, bytes := 4, agg := false, k := .int .u32, zero := [.t (.int .u32 0)] }
theorem ti155_ok : TIok Tryz.prog 155 ti155 := TIok.mk_ (z := .int .u32 0) (by kernel_rfl) rfl rfl Tryz.underlying155 rfl rfl (by kernel_rfl) (fun h => by cases h)
def tys : List (Nat × TI) := [(2, ti2), (3, ti3), (4, ti4), (5, ti5), (9, ti9), (12, ti12), (13, ti13), (21, ti21), (22, ti22), (23, ti23), (24, ti24), (25, ti25), (26, ti26), (27, ti27), (28, ti28), (29, ti29), (31, ti31), (32, ti32), (33, ti33), (34, ti34), (35, ti35), (36, ti36), (37, ti37), (46, ti46), (59, ti59), (60, ti60), (61, ti61), (73, ti73), (74, ti74), (75, ti75), (76, ti76), (77, ti77), (83, ti83), (84, ti84), (85, ti85), (87, ti87), (88, ti88), (89, ti89), (114, ti114), (115, ti115), (116, ti116), (117, ti117), (118, ti118), (119, ti119), (120, ti120), (123, ti123), (124, ti124), (135, ti135), (136, ti136), (155, ti155)]
theorem tys_ok : TOk Tryz.prog (get tys) :=
  tok_of (by
    intro p hp
    simp only [tys, List.mem_cons, List.not_mem_nil, or_false] at hp
    rcases hp with rfl | rfl | rfl | rfl | rfl | rfl | rfl | rfl | rfl | rfl | rfl | rfl | rfl | rfl | rfl | rfl | rfl | rfl | rfl | rfl | rfl | rfl | rfl | rfl | rfl | rfl | rfl | rfl | rfl | rfl | rfl | rfl | rfl | rfl | rfl | rfl | rfl | rfl | rfl | rfl | rfl | rfl | rfl | rfl | rfl | rfl | rfl | rfl | rfl | rfl
    · exact ti2_ok
    · exact ti3_ok
    · exact ti4_ok
    · exact ti5_ok
    · exact ti9_ok
    · exact ti12_ok
    · exact ti13_ok
    · exact ti21_ok
    · exact ti22_ok
    · exact ti23_ok
    · exact ti24_ok
    · exact ti25_ok
    · exact ti26_ok
    · exact ti27_ok
    · exact ti28_ok
    · exact ti29_ok
    · exact ti31_ok
    · exact ti32_ok
    · exact ti33_ok
    · exact ti34_ok
    · exact ti35_ok
    · exact ti36_ok
    · exact ti37_ok
    · exact ti46_ok
    · exact ti59_ok
    · exact ti60_ok
    · exact ti61_ok
    · exact ti73_ok
    · exact ti74_ok
    · exact ti75_ok
    · exact ti76_ok
    · exact ti77_ok
    · exact ti83_ok
    · exact ti84_ok
    · exact ti85_ok
    · exact ti87_ok
    · exact ti88_ok
    · exact ti89_ok
    · exact ti114_ok
    · exact ti115_ok
    · exact ti116_ok
    · exact ti117_ok
    · exact ti118_ok
    · exact ti119_ok
    · exact ti120_ok
    · exact ti123_ok
    · exact ti124_ok
    · exact ti135_ok
    · exact ti136_ok
    · exact ti155_ok)
/-- The contract of a function of this program, from the evaluation of its body. -/
theorem fn_of {f : FuncId} {fn : Func} {c : Code} (hf : Tryz.prog.funcs[f]? = some fn) (hb : fn.body = some c) (hn : (fn.name == "runtime.NumGoroutine") = false) {args : List V} {rs : List RV} (hlen : Nat.ble args.length fn.ntmps = true)
    (h : ev Tryz.prog (get tys) fn.ntmps c (retK (get tys) fn.results.toList rs) ⟨initEnv 0 args, [], 0⟩) : FnAt Tryz.prog f args rs :=
  fnAt_of tys_ok (by kernel_rfl) hf hb hn hlen h
/-- The same for one that writes in place. -/
theorem mut_of {f : FuncId} {fn : Func} {c : Code} (hf : Tryz.prog.funcs[f]? = some fn) (hb : fn.body = some c) (hn : (fn.name == "runtime.NumGoroutine") = false) {m m' : RV} {xs : List V} {y : T} (hlen : Nat.ble (xs.length + 1) fn.ntmps = true)
    (has : ∀ x ∈ xs, ∃ z, x = .one z ∧ isScal z = true) (hy : isScal y = true) (h : ev Tryz.prog (get tys) fn.ntmps c (retM (get tys) fn.results.toList m' y) (mSt m xs)) : MutAt Tryz.prog f m m' xs y :=
  mutAt_of tys_ok (by kernel_rfl) hf hb hn hlen has hy h
end Go.Proofs.YtmkgakabmffibaaGreat
