/-
  The table of this seat's types for the program logic, written by a program of ours off the translation; each entry is held against the program by the kernel.
  Conditions: none.
-/
import Derived.Test.YtmaamiapipngaaaGreatProg
import Derived.Test.YtmaamiapipngaaaGreatVmP
import Derived.Test.YtmaamiapipngaaaGreatVmAf
namespace Go.Proofs.YtmaamiapipngaaaGreat
open Go.Vm Go.RowKit

def ti2 : TI := { size := 1, bytes := 8, agg := false, k := .int .i64, zero := [.t (.int .i64 0)] }
theorem ti2_ok : TIok Tryz.prog 2 ti2 := TIok.mk_ (z := .int .i64 0) (by kernel_rfl) rfl rfl Tryz.underlying2 rfl rfl (by kernel_rfl) (fun h => by cases h)
def ti3 : TI := { size := 1, bytes := 8, agg := false, k := .int .i64, zero := [.t (.int .i64 0)] }
theorem ti3_ok : TIok Tryz.prog 3 ti3 := TIok.mk_ (z := .int .i64 0) (by kernel_rfl) rfl rfl Tryz.underlying3 rfl rfl (by kernel_rfl) (fun h => by cases h)
def ti4 : TI := { size := 1, bytes := 1, agg := false, k := .bool, zero := [.t (.bool false)] }
theorem ti4_ok : TIok Tryz.prog 4 ti4 := TIok.mk_ (z := .bool false) (by kernel_rfl) rfl rfl Tryz.underlying4 rfl rfl (by kernel_rfl) (fun h => by cases h)
def ti5 : TI := { size := 1, bytes := 1, agg := false, k := .int .u8, zero := [.t (.int .u8 0)] }
theorem ti5_ok : TIok Tryz.prog 5 ti5 := TIok.mk_ (z := .int .u8 0) (by kernel_rfl) rfl rfl Tryz.underlying5 rfl rfl (by kernel_rfl) (fun h => by cases h)
def ti9 : TI := { size := 1, bytes := 16, agg := false, k := .str, zero := [.t (.str ByteArray.empty)] }
theorem ti9_ok : TIok Tryz.prog 9 ti9 := TIok.mk_ (z := .string ByteArray.empty) (by kernel_rfl) rfl rfl Tryz.underlying9 rfl rfl (by kernel_rfl) (fun h => by cases h)
def ti12 : TI := { size := 1, bytes := 8, agg := false, k := .int .u64, zero := [.t (.int .u64 0)] }
theorem ti12_ok : TIok Tryz.prog 12 ti12 := TIok.mk_ (z := .int .u64 0) (by kernel_rfl) rfl rfl Tryz.underlying12 rfl rfl (by kernel_rfl) (fun h => by cases h)
def ti13 : TI := { size := 2, bytes := 24, agg := true, k := .st [(0, 9), (1, 12)], zero := [.t (.str ByteArray.empty), .t (.int .u64 0)] }
theorem ti13_ok : TIok Tryz.prog 13 ti13 := TIok.mk_ (z := .agg #[.string ByteArray.empty, .int .u64 0]) (by kernel_rfl) rfl rfl Tryz.underlying13 rfl ⟨_, rfl, rfl, fieldsOk_of (by kernel_rfl)⟩ (by kernel_rfl) (fun h => by cases h)
def ti21 : TI := { size := 1, bytes := 4, agg := false, k := .int .i32, zero := [.t (.int .i32 0)] }
theorem ti21_ok : TIok Tryz.prog 21 ti21 := TIok.mk_ (z := .int .i32 0) (by kernel_rfl) rfl rfl Tryz.underlying21 rfl rfl (by kernel_rfl) (fun h => by cases h)
def ti22 : TI := { size := 1, bytes := 24, agg := false, k := .sl 84, zero := [.nil] }
theorem ti22_ok : TIok Tryz.prog 22 ti22 := TIok.mk_ (z := .slice none 0 0) (by kernel_rfl) rfl rfl Tryz.underlying22 rfl rfl (by kernel_rfl) (fun h => by cases h)
def ti23 : TI := { size := 1, bytes := 24, agg := false, k := .sl 89, zero := [.nil] }
theorem ti23_ok : TIok Tryz.prog 23 ti23 := TIok.mk_ (z := .slice none 0 0) (by kernel_rfl) rfl rfl Tryz.underlying23 rfl rfl (by kernel_rfl) (fun h => by cases h)
def ti24 : TI := { size := 1, bytes := 24, agg := false, k := .sl 124, zero := [.nil] }
theorem ti24_ok : TIok Tryz.prog 24 ti24 := TIok.mk_ (z := .slice none 0 0) (by kernel_rfl) rfl rfl Tryz.underlying24 rfl rfl (by kernel_rfl) (fun h => by cases h)
def ti25 : TI := { size := 2, bytes := 32, agg := true, k := .st [(0, 3), (1, 24)], zero := [.t (.int .i64 0), .nil] }
theorem ti25_ok : TIok Tryz.prog 25 ti25 := TIok.mk_ (z := .agg #[.int .i64 0, .slice none 0 0]) (by kernel_rfl) rfl rfl Tryz.underlying25 rfl ⟨_, rfl, rfl, fieldsOk_of (by kernel_rfl)⟩ (by kernel_rfl) (fun h => by cases h)
def ti26 : TI := { size := 2, bytes := 32, agg := true, k := .st [(0, 3), (1, 24)], zero := [.t (.int .i64 0), .nil] }
theorem ti26_ok : TIok Tryz.prog 26 ti26 := TIok.mk_ (z := .agg #[.int .i64 0, .slice none 0 0]) (by kernel_rfl) rfl rfl Tryz.underlying26 rfl ⟨_, rfl, rfl, fieldsOk_of (by kernel_rfl)⟩ (by kernel_rfl) (fun h => by cases h)
def ti27 : TI := { size := 1, bytes := 24, agg := false, k := .sl 3, zero := [.nil] }
theorem ti27_ok : TIok Tryz.prog 27 ti27 := TIok.mk_ (z := .slice none 0 0) (by kernel_rfl) rfl rfl Tryz.underlying27 rfl rfl (by kernel_rfl) (fun h => by cases h)
def ti28 : TI := { size := 10, bytes := 144, agg := true, k := .st [(0, 3), (1, 22), (2, 23), (3, 26), (5, 3), (6, 3), (7, 3), (8, 27), (9, 3)], zero := [.t (.int .i64 0), .nil, .nil, .t (.int .i64 0), .nil, .t (.int .i64 0), .t (.int .i64 0), .t (.int .i64 0), .nil, .t (.int .i64 0)] }
theorem ti28_ok : TIok Tryz.prog 28 ti28 := TIok.mk_ (z := .agg #[.int .i64 0, .slice none 0 0, .slice none 0 0, .int .i64 0, .slice none 0 0, .int .i64 0, .int .i64 0, .int .i64 0, .slice none 0 0, .int .i64 0]) (by kernel_rfl) rfl rfl Tryz.underlying28 rfl ⟨_, rfl, rfl, fieldsOk_of (by kernel_rfl)⟩ (by kernel_rfl) (fun h => by cases h)
def ti29 : TI := { size := 10, bytes := 144, agg := true, k := .st [(0, 3), (1, 22), (2, 23), (3, 26), (5, 3), (6, 3), (7, 3), (8, 27), (9, 3)], zero := [.t (.int .i64 0), .nil, .nil, .t (.int .i64 0), .nil, .t (.int .i64 0), .t (.int .i64 0), .t (.int .i64 0), .nil, .t (.int .i64 0)] }
theorem ti29_ok : TIok Tryz.prog 29 ti29 := TIok.mk_ (z := .agg #[.int .i64 0, .slice none 0 0, .slice none 0 0, .int .i64 0, .slice none 0 0, .int .i64 0, .int .i64 0, .int .i64 0, .slice none 0 0, .int .i64 0]) (by kernel_rfl) rfl rfl Tryz.underlying29 rfl ⟨_, rfl, rfl, fieldsOk_of (by kernel_rfl)⟩ (by kernel_rfl) (fun h => by cases h)
def ti31 : TI := { size := 1, bytes := 24, agg := false, k := .sl 5, zero := [.nil] }
theorem ti31_ok : TIok Tryz.prog 31 ti31 := TIok.mk_ (z := .slice none 0 0) (by kernel_rfl) rfl rfl Tryz.underlying31 rfl rfl (by kernel_rfl) (fun h => by cases h)
def ti34 : TI := { size := 1, bytes := 24, agg := false, k := .sl 71, zero := [.nil] }
theorem ti34_ok : TIok Tryz.prog 34 ti34 := TIok.mk_ (z := .slice none 0 0) (by kernel_rfl) rfl rfl Tryz.underlying34 rfl rfl (by kernel_rfl) (fun h => by cases h)
def ti35 : TI := { size := 1, bytes := 24, agg := false, k := .sl 99, zero := [.nil] }
theorem ti35_ok : TIok Tryz.prog 35 ti35 := TIok.mk_ (z := .slice none 0 0) (by kernel_rfl) rfl rfl Tryz.underlying35 rfl rfl (by kernel_rfl) (fun h => by cases h)
def ti36 : TI := { size := 1, bytes := 24, agg := false, k := .sl 103, zero := [.nil] }
theorem ti36_ok : TIok Tryz.prog 36 ti36 := TIok.mk_ (z := .slice none 0 0) (by kernel_rfl) rfl rfl Tryz.underlying36 rfl rfl (by kernel_rfl) (fun h => by cases h)
def ti37 : TI := { size := 2, bytes := 32, agg := true, k := .st [(0, 3), (1, 36)], zero := [.t (.int .i64 0), .nil] }
theorem ti37_ok : TIok Tryz.prog 37 ti37 := TIok.mk_ (z := .agg #[.int .i64 0, .slice none 0 0]) (by kernel_rfl) rfl rfl Tryz.underlying37 rfl ⟨_, rfl, rfl, fieldsOk_of (by kernel_rfl)⟩ (by kernel_rfl) (fun h => by cases h)
def ti38 : TI := { size := 2, bytes := 32, agg := true, k := .st [(0, 3), (1, 36)], zero := [.t (.int .i64 0), .nil] }
theorem ti38_ok : TIok Tryz.prog 38 ti38 := TIok.mk_ (z := .agg #[.int .i64 0, .slice none 0 0]) (by kernel_rfl) rfl rfl Tryz.underlying38 rfl ⟨_, rfl, rfl, fieldsOk_of (by kernel_rfl)⟩ (by kernel_rfl) (fun h => by cases h)
def ti39 : TI := { size := 10, bytes := 144, agg := true, k := .st [(0, 3), (1, 34), (2, 35), (3, 38), (5, 3), (6, 3), (7, 3), (8, 27), (9, 3)], zero := [.t (.int .i64 0), .nil, .nil, .t (.int .i64 0), .nil, .t (.int .i64 0), .t (.int .i64 0), .t (.int .i64 0), .nil, .t (.int .i64 0)] }
theorem ti39_ok : TIok Tryz.prog 39 ti39 := TIok.mk_ (z := .agg #[.int .i64 0, .slice none 0 0, .slice none 0 0, .int .i64 0, .slice none 0 0, .int .i64 0, .int .i64 0, .int .i64 0, .slice none 0 0, .int .i64 0]) (by kernel_rfl) rfl rfl Tryz.underlying39 rfl ⟨_, rfl, rfl, fieldsOk_of (by kernel_rfl)⟩ (by kernel_rfl) (fun h => by cases h)
def ti40 : TI := { size := 10, bytes := 144, agg := true, k := .st [(0, 3), (1, 34), (2, 35), (3, 38), (5, 3), (6, 3), (7, 3), (8, 27), (9, 3)], zero := [.t (.int .i64 0), .nil, .nil, .t (.int .i64 0), .nil, .t (.int .i64 0), .t (.int .i64 0), .t (.int .i64 0), .nil, .t (.int .i64 0)] }
theorem ti40_ok : TIok Tryz.prog 40 ti40 := TIok.mk_ (z := .agg #[.int .i64 0, .slice none 0 0, .slice none 0 0, .int .i64 0, .slice none 0 0, .int .i64 0, .int .i64 0, .int .i64 0, .slice none 0 0, .int .i64 0]) (by kernel_rfl) rfl rfl Tryz.underlying40 rfl ⟨_, rfl, rfl, fieldsOk_of (by kernel_rfl)⟩ (by kernel_rfl) (fun h => by cases h)
def ti56 : TI := { size := 1, bytes := 24, agg := false, k := .sl 31, zero := [.nil] }
theorem ti56_ok : TIok Tryz.prog 56 ti56 := TIok.mk_ (z := .slice none 0 0) (by kernel_rfl) rfl rfl Tryz.underlying56 rfl rfl (by kernel_rfl) (fun h => by cases h)
def ti57 : TI := { size := 1, bytes := 24, agg := true, k := .st [(0, 56)], zero := [.nil] }
theorem ti57_ok : TIok Tryz.prog 57 ti57 := TIok.mk_ (z := .agg #[.slice none 0 0]) (by kernel_rfl) rfl rfl Tryz.underlying57 rfl ⟨_, rfl, rfl, fieldsOk_of (by kernel_rfl)⟩ (by kernel_rfl) (fun h => by cases h)
def ti58 : TI := { size := 1, bytes := 24, agg := true, k := .st [(0, 56)], zero := [.nil] }
theorem ti58_ok : TIok Tryz.prog 58 ti58 := TIok.mk_ (z := .agg #[.slice none 0 0]) (by kernel_rfl) rfl rfl Tryz.underlying58 rfl ⟨_, rfl, rfl, fieldsOk_of (by kernel_rfl)⟩ (by kernel_rfl) (fun h => by cases h)
def ti61 : TI := { size := 1, bytes := 24, agg := false, k := .sl 66, zero := [.nil] }
theorem ti61_ok : TIok Tryz.prog 61 ti61 := TIok.mk_ (z := .slice none 0 0) (by kernel_rfl) rfl rfl Tryz.underlying61 rfl rfl (by kernel_rfl) (fun h => by cases h)
def ti62 : TI := { size := 1, bytes := 24, agg := false, k := .sl 27, zero := [.nil] }
theorem ti62_ok : TIok Tryz.prog 62 ti62 := TIok.mk_ (z := .slice none 0 0) (by kernel_rfl) rfl rfl Tryz.underlying62 rfl rfl (by kernel_rfl) (fun h => by cases h)
def ti65 : TI := { size := 5, bytes := 72, agg := true, k := .st [(0, 3), (1, 3), (2, 27), (3, 31), (4, 3)], zero := [.t (.int .i64 0), .t (.int .i64 0), .nil, .nil, .t (.int .i64 0)] }
theorem ti65_ok : TIok Tryz.prog 65 ti65 := TIok.mk_ (z := .agg #[.int .i64 0, .int .i64 0, .slice none 0 0, .slice none 0 0, .int .i64 0]) (by kernel_rfl) rfl rfl Tryz.underlying65 rfl ⟨_, rfl, rfl, fieldsOk_of (by kernel_rfl)⟩ (by kernel_rfl) (fun h => by cases h)
def ti66 : TI := { size := 5, bytes := 72, agg := true, k := .st [(0, 3), (1, 3), (2, 27), (3, 31), (4, 3)], zero := [.t (.int .i64 0), .t (.int .i64 0), .nil, .nil, .t (.int .i64 0)] }
theorem ti66_ok : TIok Tryz.prog 66 ti66 := TIok.mk_ (z := .agg #[.int .i64 0, .int .i64 0, .slice none 0 0, .slice none 0 0, .int .i64 0]) (by kernel_rfl) rfl rfl Tryz.underlying66 rfl ⟨_, rfl, rfl, fieldsOk_of (by kernel_rfl)⟩ (by kernel_rfl) (fun h => by cases h)
def ti69 : TI := { size := 1, bytes := 24, agg := false, k := .sl 133, zero := [.nil] }
theorem ti69_ok : TIok Tryz.prog 69 ti69 := TIok.mk_ (z := .slice none 0 0) (by kernel_rfl) rfl rfl Tryz.underlying69 rfl rfl (by kernel_rfl) (fun h => by cases h)
def ti70 : TI := { size := 5, bytes := 56, agg := true, k := .st [(0, 3), (1, 3), (2, 3), (3, 69), (4, 3)], zero := [.t (.int .i64 0), .t (.int .i64 0), .t (.int .i64 0), .nil, .t (.int .i64 0)] }
theorem ti70_ok : TIok Tryz.prog 70 ti70 := TIok.mk_ (z := .agg #[.int .i64 0, .int .i64 0, .int .i64 0, .slice none 0 0, .int .i64 0]) (by kernel_rfl) rfl rfl Tryz.underlying70 rfl ⟨_, rfl, rfl, fieldsOk_of (by kernel_rfl)⟩ (by kernel_rfl) (fun h => by cases h)
def ti71 : TI := { size := 5, bytes := 56, agg := true, k := .st [(0, 3), (1, 3), (2, 3), (3, 69), (4, 3)], zero := [.t (.int .i64 0), .t (.int .i64 0), .t (.int .i64 0), .nil, .t (.int .i64 0)] }
theorem ti71_ok : TIok Tryz.prog 71 ti71 := TIok.mk_ (z := .agg #[.int .i64 0, .int .i64 0, .int .i64 0, .slice none 0 0, .int .i64 0]) (by kernel_rfl) rfl rfl Tryz.underlying71 rfl ⟨_, rfl, rfl, fieldsOk_of (by kernel_rfl)⟩ (by kernel_rfl) (fun h => by cases h)
def ti82 : TI := { size := 1, bytes := 24, agg := false, k := .sl 148, zero := [.nil] }
theorem ti82_ok : TIok Tryz.prog 82 ti82 := TIok.mk_ (z := .slice none 0 0) (by kernel_rfl) rfl rfl Tryz.underlying82 rfl rfl (by kernel_rfl) (fun h => by cases h)
def ti83 : TI := { size := 5, bytes := 56, agg := true, k := .st [(0, 3), (1, 3), (2, 3), (3, 82), (4, 3)], zero := [.t (.int .i64 0), .t (.int .i64 0), .t (.int .i64 0), .nil, .t (.int .i64 0)] }
theorem ti83_ok : TIok Tryz.prog 83 ti83 := TIok.mk_ (z := .agg #[.int .i64 0, .int .i64 0, .int .i64 0, .slice none 0 0, .int .i64 0]) (by kernel_rfl) rfl rfl Tryz.underlying83 rfl ⟨_, rfl, rfl, fieldsOk_of (by kernel_rfl)⟩ (by kernel_rfl) (fun h => by cases h)
def ti84 : TI := { size := 5, bytes := 56, agg := true, k := .st [(0, 3), (1, 3), (2, 3), (3, 82), (4, 3)], zero := [.t (.int .i64 0), .t (.int .i64 0), .t (.int .i64 0), .nil, .t (.int .i64 0)] }
theorem ti84_ok : TIok Tryz.prog 84 ti84 := TIok.mk_ (z := .agg #[.int .i64 0, .int .i64 0, .int .i64 0, .slice none 0 0, .int .i64 0]) (by kernel_rfl) rfl rfl Tryz.underlying84 rfl ⟨_, rfl, rfl, fieldsOk_of (by kernel_rfl)⟩ (by kernel_rfl) (fun h => by cases h)
def ti86 : TI := { size := 8, bytes := 96, agg := true, k := .st [(0, 3), (1, 3), (2, 3), (3, 3), (4, 56), (5, 3), (6, 56), (7, 3)], zero := [.t (.int .i64 0), .t (.int .i64 0), .t (.int .i64 0), .t (.int .i64 0), .nil, .t (.int .i64 0), .nil, .t (.int .i64 0)] }
theorem ti86_ok : TIok Tryz.prog 86 ti86 := TIok.mk_ (z := .agg #[.int .i64 0, .int .i64 0, .int .i64 0, .int .i64 0, .slice none 0 0, .int .i64 0, .slice none 0 0, .int .i64 0]) (by kernel_rfl) rfl rfl Tryz.underlying86 rfl ⟨_, rfl, rfl, fieldsOk_of (by kernel_rfl)⟩ (by kernel_rfl) (fun h => by cases h)
def ti87 : TI := { size := 8, bytes := 96, agg := true, k := .st [(0, 3), (1, 3), (2, 3), (3, 3), (4, 56), (5, 3), (6, 56), (7, 3)], zero := [.t (.int .i64 0), .t (.int .i64 0), .t (.int .i64 0), .t (.int .i64 0), .nil, .t (.int .i64 0), .nil, .t (.int .i64 0)] }
theorem ti87_ok : TIok Tryz.prog 87 ti87 := TIok.mk_ (z := .agg #[.int .i64 0, .int .i64 0, .int .i64 0, .int .i64 0, .slice none 0 0, .int .i64 0, .slice none 0 0, .int .i64 0]) (by kernel_rfl) rfl rfl Tryz.underlying87 rfl ⟨_, rfl, rfl, fieldsOk_of (by kernel_rfl)⟩ (by kernel_rfl) (fun h => by cases h)
def ti88 : TI := { size := 16, bytes := 192, agg := true, k := .st [(0, 87), (8, 87)], zero := [.t (.int .i64 0), .t (.int .i64 0), .t (.int .i64 0), .t (.int .i64 0), .nil, .t (.int .i64 0), .nil, .t (.int .i64 0), .t (.int .i64 0), .t (.int .i64 0), .t (.int .i64 0), .t (.int .i64 0), .nil, .t (.int .i64 0), .nil, .t (.int .i64 0)] }
theorem ti88_ok : TIok Tryz.prog 88 ti88 := TIok.mk_ (z := .agg #[.int .i64 0, .int .i64 0, .int .i64 0, .int .i64 0, .slice none 0 0, .int .i64 0, .slice none 0 0, .int .i64 0, .int .i64 0, .int .i64 0, .int .i64 0, .int .i64 0, .slice none 0 0, .int .i64 0, .slice none 0 0, .int .i64 0]) (by kernel_rfl) rfl rfl Tryz.underlying88 rfl ⟨_, rfl, rfl, fieldsOk_of (by kernel_rfl)⟩ (by kernel_rfl) (fun h => by cases h)
def ti89 : TI := { size := 16, bytes := 192, agg := true, k := .st [(0, 87), (8, 87)], zero := [.t (.int .i64 0), .t (.int .i64 0), .t (.int .i64 0), .t (.int .i64 0), .nil, .t (.int .i64 0), .nil, .t (.int .i64 0), .t (.int .i64 0), .t (.int .i64 0), .t (.int .i64 0), .t (.int .i64 0), .nil, .t (.int .i64 0), .nil, .t (.int .i64 0)] }
theorem ti89_ok : TIok Tryz.prog 89 ti89 := TIok.mk_ (z := .agg #[.int .i64 0, .int .i64 0, .int .i64 0, .int .i64 0, .slice none 0 0, .int .i64 0, .slice none 0 0, .int .i64 0, .int .i64 0, .int .i64 0, .int .i64 0, .int .i64 0, .slice none 0 0, .int .i64 0, .slice none 0 0, .int .i64 0]) (by kernel_rfl) rfl rfl Tryz.underlying89 rfl ⟨_, rfl, rfl, fieldsOk_of (by kernel_rfl)⟩ (by kernel_rfl) (fun h => by cases h)
def ti97 : TI := { size := 8, bytes := 96, agg := true, k := .st [(0, 3), (1, 3), (2, 3), (3, 3), (4, 56), (5, 3), (6, 56), (7, 3)], zero := [.t (.int .i64 0), .t (.int .i64 0), .t (.int .i64 0), .t (.int .i64 0), .nil, .t (.int .i64 0), .nil, .t (.int .i64 0)] }
theorem ti97_ok : TIok Tryz.prog 97 ti97 := TIok.mk_ (z := .agg #[.int .i64 0, .int .i64 0, .int .i64 0, .int .i64 0, .slice none 0 0, .int .i64 0, .slice none 0 0, .int .i64 0]) (by kernel_rfl) rfl rfl Tryz.underlying97 rfl ⟨_, rfl, rfl, fieldsOk_of (by kernel_rfl)⟩ (by kernel_rfl) (fun h => by cases h)
def ti98 : TI := { size := 16, bytes := 192, agg := true, k := .st [(0, 97), (8, 97)], zero := [.t (.int .i64 0), .t (.int .i64 0), .t (.int .i64 0), .t (.int .i64 0), .nil, .t (.int .i64 0), .nil, .t (.int .i64 0), .t (.int .i64 0), .t (.int .i64 0), .t (.int .i64 0), .t (.int .i64 0), .nil, .t (.int .i64 0), .nil, .t (.int .i64 0)] }
theorem ti98_ok : TIok Tryz.prog 98 ti98 := TIok.mk_ (z := .agg #[.int .i64 0, .int .i64 0, .int .i64 0, .int .i64 0, .slice none 0 0, .int .i64 0, .slice none 0 0, .int .i64 0, .int .i64 0, .int .i64 0, .int .i64 0, .int .i64 0, .slice none 0 0, .int .i64 0, .slice none 0 0, .int .i64 0]) (by kernel_rfl) rfl rfl Tryz.underlying98 rfl ⟨_, rfl, rfl, fieldsOk_of (by kernel_rfl)⟩ (by kernel_rfl) (fun h => by cases h)
def ti99 : TI := { size := 16, bytes := 192, agg := true, k := .st [(0, 97), (8, 97)], zero := [.t (.int .i64 0), .t (.int .i64 0), .t (.int .i64 0), .t (.int .i64 0), .nil, .t (.int .i64 0), .nil, .t (.int .i64 0), .t (.int .i64 0), .t (.int .i64 0), .t (.int .i64 0), .t (.int .i64 0), .nil, .t (.int .i64 0), .nil, .t (.int .i64 0)] }
theorem ti99_ok : TIok Tryz.prog 99 ti99 := TIok.mk_ (z := .agg #[.int .i64 0, .int .i64 0, .int .i64 0, .int .i64 0, .slice none 0 0, .int .i64 0, .slice none 0 0, .int .i64 0, .int .i64 0, .int .i64 0, .int .i64 0, .int .i64 0, .slice none 0 0, .int .i64 0, .slice none 0 0, .int .i64 0]) (by kernel_rfl) rfl rfl Tryz.underlying99 rfl ⟨_, rfl, rfl, fieldsOk_of (by kernel_rfl)⟩ (by kernel_rfl) (fun h => by cases h)
def ti102 : TI := { size := 2, bytes := 32, agg := true, k := .st [(0, 3), (1, 58)], zero := [.t (.int .i64 0), .nil] }
theorem ti102_ok : TIok Tryz.prog 102 ti102 := TIok.mk_ (z := .agg #[.int .i64 0, .slice none 0 0]) (by kernel_rfl) rfl rfl Tryz.underlying102 rfl ⟨_, rfl, rfl, fieldsOk_of (by kernel_rfl)⟩ (by kernel_rfl) (fun h => by cases h)
def ti103 : TI := { size := 2, bytes := 32, agg := true, k := .st [(0, 3), (1, 58)], zero := [.t (.int .i64 0), .nil] }
theorem ti103_ok : TIok Tryz.prog 103 ti103 := TIok.mk_ (z := .agg #[.int .i64 0, .slice none 0 0]) (by kernel_rfl) rfl rfl Tryz.underlying103 rfl ⟨_, rfl, rfl, fieldsOk_of (by kernel_rfl)⟩ (by kernel_rfl) (fun h => by cases h)
def ti122 : TI := { size := 1, bytes := 24, agg := true, k := .st [(0, 56)], zero := [.nil] }
theorem ti122_ok : TIok Tryz.prog 122 ti122 := TIok.mk_ (z := .agg #[.slice none 0 0]) (by kernel_rfl) rfl rfl Tryz.underlying122 rfl ⟨_, rfl, rfl, fieldsOk_of (by kernel_rfl)⟩ (by kernel_rfl) (fun h => by cases h)
def ti123 : TI := { size := 2, bytes := 32, agg := true, k := .st [(0, 3), (1, 122)], zero := [.t (.int .i64 0), .nil] }
theorem ti123_ok : TIok Tryz.prog 123 ti123 := TIok.mk_ (z := .agg #[.int .i64 0, .slice none 0 0]) (by kernel_rfl) rfl rfl Tryz.underlying123 rfl ⟨_, rfl, rfl, fieldsOk_of (by kernel_rfl)⟩ (by kernel_rfl) (fun h => by cases h)
def ti124 : TI := { size := 2, bytes := 32, agg := true, k := .st [(0, 3), (1, 122)], zero := [.t (.int .i64 0), .nil] }
theorem ti124_ok : TIok Tryz.prog 124 ti124 := TIok.mk_ (z := .agg #[.int .i64 0, .slice none 0 0]) (by kernel_rfl) rfl rfl Tryz.underlying124 rfl ⟨_, rfl, rfl, fieldsOk_of (by kernel_rfl)⟩ (by kernel_rfl) (fun h => by cases h)
def ti132 : TI := { size := 2, bytes := 32, agg := true, k := .st [(0, 3), (1, 58)], zero := [.t (.int .i64 0), .nil] }
theorem ti132_ok : TIok Tryz.prog 132 ti132 := TIok.mk_ (z := .agg #[.int .i64 0, .slice none 0 0]) (by kernel_rfl) rfl rfl Tryz.underlying132 rfl ⟨_, rfl, rfl, fieldsOk_of (by kernel_rfl)⟩ (by kernel_rfl) (fun h => by cases h)
def ti133 : TI := { size := 2, bytes := 32, agg := true, k := .st [(0, 3), (1, 58)], zero := [.t (.int .i64 0), .nil] }
theorem ti133_ok : TIok Tryz.prog 133 ti133 := TIok.mk_ (z := .agg #[.int .i64 0, .slice none 0 0]) (by kernel_rfl) rfl rfl Tryz.underlying133 rfl ⟨_, rfl, rfl, fieldsOk_of (by kernel_rfl)⟩ (by kernel_rfl) (fun h => by cases h)
def ti137 : TI := { size := 1, bytes := 8, agg := false, k := .int .u64, zero := [.t (.int .u64 0)] }
theorem ti137_ok : TIok Tryz.prog 137 ti137 := TIok.mk_ (z := .int .u64 0) (by kernel_rfl) rfl rfl Tryz.underlying137 rfl rfl (by kernel_rfl) (fun h => by cases h)
def ti147 : TI := { size := 2, bytes := 32, agg := true, k := .st [(0, 3), (1, 122)], zero := [.t (.int .i64 0), .nil] }
theorem ti147_ok : TIok Tryz.prog 147 ti147 := TIok.mk_ (z := .agg #[.int .i64 0, .slice none 0 0]) (by kernel_rfl) rfl rfl Tryz.underlying147 rfl ⟨_, rfl, rfl, fieldsOk_of (by kernel_rfl)⟩ (by kernel_rfl) (fun h => by cases h)
def ti148 : TI := { size := 2, bytes := 32, agg := true, k := .st [(0, 3), (1, 122)], zero := [.t (.int .i64 0), .nil] }
theorem ti148_ok : TIok Tryz.prog 148 ti148 := TIok.mk_ (z := .agg #[.int .i64 0, .slice none 0 0]) (by kernel_rfl) rfl rfl Tryz.underlying148 rfl ⟨_, rfl, rfl, fieldsOk_of (by kernel_rfl)⟩ (by kernel_rfl) (fun h => by cases h)
def ti171 : TI := { size := 1, bytes := 4, agg := false, k := .int .u32, zero := [.t (.int .u32 0)] }
theorem ti171_ok : TIok Tryz.prog 171 ti171 := TIok.mk_ (z := .int .u32 0) (by kernel_rfl) rfl rfl Tryz.underlying171 rfl rfl (by kernel_rfl) (fun h => by cases h)
def tys : List (Nat × TI) := [(2, ti2), (3, ti3), (4, ti4), (5, ti5), (9, ti9), (12, ti12), (13, ti13), (21, ti21), (22, ti22), (23, ti23), (24, ti24), (25, ti25), (26, ti26), (27, ti27), (28, ti28), (29, ti29), (31, ti31), (34, ti34), (35, ti35), (36, ti36), (37, ti37), (38, ti38), (39, ti39), (40, ti40), (56, ti56), (57, ti57), (58, ti58), (61, ti61), (62, ti62), (65, ti65), (66, ti66), (69, ti69), (70, ti70), (71, ti71), (82, ti82), (83, ti83), (84, ti84), (86, ti86), (87, ti87), (88, ti88), (89, ti89), (97, ti97), (98, ti98), (99, ti99), (102, ti102), (103, ti103), (122, ti122), (123, ti123), (124, ti124), (132, ti132), (133, ti133), (137, ti137), (147, ti147), (148, ti148), (171, ti171)]
theorem tys_ok : TOk Tryz.prog (get tys) :=
  tok_of (by
    intro p hp
    simp only [tys, List.mem_cons, List.not_mem_nil, or_false] at hp
    rcases hp with rfl | rfl | rfl | rfl | rfl | rfl | rfl | rfl | rfl | rfl | rfl | rfl | rfl | rfl | rfl | rfl | rfl | rfl | rfl | rfl | rfl | rfl | rfl | rfl | rfl | rfl | rfl | rfl | rfl | rfl | rfl | rfl | rfl | rfl | rfl | rfl | rfl | rfl | rfl | rfl | rfl | rfl | rfl | rfl | rfl | rfl | rfl | rfl | rfl | rfl | rfl | rfl | rfl | rfl | rfl
    · exact ti2_ok
    · exact ti3_ok
    · exact ti4_ok
    · exact ti5_ok
    · exact ti9_ok
    · exact ti12_ok
    · exact ti13_ok
    · exact ti21_ok
    · exact ti22_ok
    · exact ti23_ok
    · exact ti24_ok
    · exact ti25_ok
    · exact ti26_ok
    · exact ti27_ok
    · exact ti28_ok
    · exact ti29_ok
    · exact ti31_ok
    · exact ti34_ok
    · exact ti35_ok
    · exact ti36_ok
    · exact ti37_ok
    · exact ti38_ok
    · exact ti39_ok
    · exact ti40_ok
    · exact ti56_ok
    · exact ti57_ok
    · exact ti58_ok
    · exact ti61_ok
    · exact ti62_ok
    · exact ti65_ok
    · exact ti66_ok
    · exact ti69_ok
    · exact ti70_ok
    · exact ti71_ok
    · exact ti82_ok
    · exact ti83_ok
    · exact ti84_ok
    · exact ti86_ok
    · exact ti87_ok
    · exact ti88_ok
    · exact ti89_ok
    · exact ti97_ok
    · exact ti98_ok
    · exact ti99_ok
    · exact ti102_ok
    · exact ti103_ok
    · exact ti122_ok
    · exact ti123_ok
    · exact ti124_ok
    · exact ti132_ok
    · exact ti133_ok
    · exact ti137_ok
    · exact ti147_ok
    · exact ti148_ok
    · exact ti171_ok)
/-- The contract of a function of this program, from the evaluation of its body. -/
theorem fn_of {f : FuncId} {fn : Func} {c : Code} (hf : Tryz.prog.funcs[f]? = some fn) (hb : fn.body = some c) (hn : (fn.name == "runtime.NumGoroutine") = false) {args : List V} {rs : List RV} (hlen : Nat.ble args.length fn.ntmps = true)
    (h : ev Tryz.prog (get tys) fn.ntmps c (retK (get tys) fn.results.toList rs) ⟨initEnv 0 args, [], 0⟩) : FnAt Tryz.prog f args rs :=
  fnAt_of tys_ok (by kernel_rfl) hf hb hn hlen h
/-- The same for one that writes in place. -/
theorem mut_of {f : FuncId} {fn : Func} {c : Code} (hf : Tryz.prog.funcs[f]? = some fn) (hb : fn.body = some c) (hn : (fn.name == "runtime.NumGoroutine") = false) {m m' : RV} {xs : List V} {y : T} (hlen : Nat.ble (xs.length + 1) fn.ntmps = true)
    (has : ∀ x ∈ xs, ∃ z, x = .one z ∧ isScal z = true) (hy : isScal y = true) (h : ev Tryz.prog (get tys) fn.ntmps c (retM (get tys) fn.results.toList m' y) (mSt m xs)) : MutAt Tryz.prog f m m' xs y :=
  mutAt_of tys_ok (by kernel_rfl) hf hb hn hlen has hy h
/-- The same for one that is called with a pointer to a box. -/
theorem cur_of {f : FuncId} {fn : Func} {c : Code} (hf : Tryz.prog.funcs[f]? = some fn) (hb : fn.body = some c) (hn : (fn.name == "runtime.NumGoroutine") = false) {cs cs' : List T} {xs : List V} {rs : List RV} (hlen : Nat.ble (xs.length + 1) fn.ntmps = true)
    (h : ev Tryz.prog (get tys) fn.ntmps c (retC (get tys) fn.results.toList cs' rs) (cSt cs xs)) : CurAt Tryz.prog f cs cs' xs rs :=
  cur_of_ev tys_ok (by kernel_rfl) hf hb hn hlen h
/-- The same, where of the results a property alone is known. -/
theorem fnE_of {f : FuncId} {fn : Func} {c : Code} (hf : Tryz.prog.funcs[f]? = some fn) (hb : fn.body = some c) (hn : (fn.name == "runtime.NumGoroutine") = false) {args : List V} {X : Type} {rs : X → List RV} {Q : X → Prop} (hlen : Nat.ble args.length fn.ntmps = true)
    (h : ev Tryz.prog (get tys) fn.ntmps c (retKE (get tys) fn.results.toList rs Q) ⟨initEnv 0 args, [], 0⟩) : FnE Tryz.prog f args X rs Q :=
  fnE_of_ev tys_ok (by kernel_rfl) hf hb hn hlen h
theorem curE_of {f : FuncId} {fn : Func} {c : Code} (hf : Tryz.prog.funcs[f]? = some fn) (hb : fn.body = some c) (hn : (fn.name == "runtime.NumGoroutine") = false) {cs : List T} {xs : List V} {X : Type} {cs' : X → List T} {rs : X → List RV} {Q : X → Prop} (hlen : Nat.ble (xs.length + 1) fn.ntmps = true)
    (h : ev Tryz.prog (get tys) fn.ntmps c (retCE (get tys) fn.results.toList cs' rs Q) (cSt cs xs)) : CurE Tryz.prog f cs xs X cs' rs Q :=
  curE_of_ev tys_ok (by kernel_rfl) hf hb hn hlen h
/-- A call that is walked in place. -/
theorem jat_ {f : FuncId} {fn : Func} {c : Code} (hf : Tryz.prog.funcs[f]? = some fn) (hb : fn.body = some c) (hn : (fn.name == "runtime.NumGoroutine") = false) {avs : List AV} {σ : St} {K : AV → St → Prop} (hlen : Nat.ble avs.length fn.ntmps = true) (hav : avs.all noPin = true)
    (h : ev Tryz.prog (get tys) fn.ntmps c (retJ (get tys) fn.ntmps fn.results.toList K) ⟨jEnv fn.ntmps avs σ.env, σ.objs, σ.next⟩) : JAt Tryz.prog f avs σ K :=
  jat_of tys_ok (by kernel_rfl) hf hb hn hlen hav h
end Go.Proofs.YtmaamiapipngaaaGreat
