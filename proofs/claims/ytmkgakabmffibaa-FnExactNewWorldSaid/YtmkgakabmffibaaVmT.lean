/-
  The table of this seat's types for the program logic, written by a program of ours off the translation; each entry is held against the program by the kernel.
  Conditions: none.
-/
import Derived.Test.YtmkgakabmffibaaProg
import Derived.Test.YtmkgakabmffibaaVmP
import Derived.Test.YtmkgakabmffibaaVmU
namespace Go.Proofs.Ytmkgakabmffibaa
open Go.Vm Go.RowKit

def ti2 : TI := { size := 1, bytes := 8, agg := false, k := .int .i64, zero := [.t (.int .i64 0)] }
theorem ti2_ok : TIok Try.prog 2 ti2 := TIok.mk_ (z := .int .i64 0) (by kernel_rfl) rfl rfl Try.underlying2 rfl rfl (by kernel_rfl) (fun h => by cases h)
def ti3 : TI := { size := 1, bytes := 8, agg := false, k := .int .i64, zero := [.t (.int .i64 0)] }
theorem ti3_ok : TIok Try.prog 3 ti3 := TIok.mk_ (z := .int .i64 0) (by kernel_rfl) rfl rfl Try.underlying3 rfl rfl (by kernel_rfl) (fun h => by cases h)
def ti4 : TI := { size := 1, bytes := 1, agg := false, k := .bool, zero := [.t (.bool false)] }
theorem ti4_ok : TIok Try.prog 4 ti4 := TIok.mk_ (z := .bool false) (by kernel_rfl) rfl rfl Try.underlying4 rfl rfl (by kernel_rfl) (fun h => by cases h)
def ti5 : TI := { size := 1, bytes := 1, agg := false, k := .int .u8, zero := [.t (.int .u8 0)] }
theorem ti5_ok : TIok Try.prog 5 ti5 := TIok.mk_ (z := .int .u8 0) (by kernel_rfl) rfl rfl Try.underlying5 rfl rfl (by kernel_rfl) (fun h => by cases h)
def ti9 : TI := { size := 1, bytes := 16, agg := false, k := .str, zero := [.t (.str ByteArray.empty)] }
theorem ti9_ok : TIok Try.prog 9 ti9 := TIok.mk_ (z := .string ByteArray.empty) (by kernel_rfl) rfl rfl Try.underlying9 rfl rfl (by kernel_rfl) (fun h => by cases h)
def ti12 : TI := { size := 1, bytes := 8, agg := false, k := .int .u64, zero := [.t (.int .u64 0)] }
theorem ti12_ok : TIok Try.prog 12 ti12 := TIok.mk_ (z := .int .u64 0) (by kernel_rfl) rfl rfl Try.underlying12 rfl rfl (by kernel_rfl) (fun h => by cases h)
def ti13 : TI := { size := 2, bytes := 24, agg := true, k := .st [(0, 9), (1, 12)], zero := [.t (.str ByteArray.empty), .t (.int .u64 0)] }
theorem ti13_ok : TIok Try.prog 13 ti13 := TIok.mk_ (z := .agg #[.string ByteArray.empty, .int .u64 0]) (by kernel_rfl) rfl rfl Try.underlying13 rfl ⟨_, rfl, rfl, fieldsOk_of (by kernel_rfl)⟩ (by kernel_rfl) (fun h => by cases h)
def ti21 : TI := { size := 1, bytes := 4, agg := false, k := .int .i32, zero := [.t (.int .i32 0)] }
theorem ti21_ok : TIok Try.prog 21 ti21 := TIok.mk_ (z := .int .i32 0) (by kernel_rfl) rfl rfl Try.underlying21 rfl rfl (by kernel_rfl) (fun h => by cases h)
def ti22 : TI := { size := 1, bytes := 24, agg := false, k := .sl 26, zero := [.nil] }
theorem ti22_ok : TIok Try.prog 22 ti22 := TIok.mk_ (z := .slice none 0 0) (by kernel_rfl) rfl rfl Try.underlying22 rfl rfl (by kernel_rfl) (fun h => by cases h)
def ti23 : TI := { size := 8, bytes := 96, agg := true, k := .st [(0, 3), (1, 3), (2, 3), (3, 3), (4, 22), (5, 3), (6, 22), (7, 3)], zero := [.t (.int .i64 0), .t (.int .i64 0), .t (.int .i64 0), .t (.int .i64 0), .nil, .t (.int .i64 0), .nil, .t (.int .i64 0)] }
theorem ti23_ok : TIok Try.prog 23 ti23 := TIok.mk_ (z := .agg #[.int .i64 0, .int .i64 0, .int .i64 0, .int .i64 0, .slice none 0 0, .int .i64 0, .slice none 0 0, .int .i64 0]) (by kernel_rfl) rfl rfl Try.underlying23 rfl ⟨_, rfl, rfl, fieldsOk_of (by kernel_rfl)⟩ (by kernel_rfl) (fun h => by cases h)
def ti24 : TI := { size := 8, bytes := 96, agg := true, k := .st [(0, 3), (1, 3), (2, 3), (3, 3), (4, 22), (5, 3), (6, 22), (7, 3)], zero := [.t (.int .i64 0), .t (.int .i64 0), .t (.int .i64 0), .t (.int .i64 0), .nil, .t (.int .i64 0), .nil, .t (.int .i64 0)] }
theorem ti24_ok : TIok Try.prog 24 ti24 := TIok.mk_ (z := .agg #[.int .i64 0, .int .i64 0, .int .i64 0, .int .i64 0, .slice none 0 0, .int .i64 0, .slice none 0 0, .int .i64 0]) (by kernel_rfl) rfl rfl Try.underlying24 rfl ⟨_, rfl, rfl, fieldsOk_of (by kernel_rfl)⟩ (by kernel_rfl) (fun h => by cases h)
def ti26 : TI := { size := 1, bytes := 24, agg := false, k := .sl 5, zero := [.nil] }
theorem ti26_ok : TIok Try.prog 26 ti26 := TIok.mk_ (z := .slice none 0 0) (by kernel_rfl) rfl rfl Try.underlying26 rfl rfl (by kernel_rfl) (fun h => by cases h)
def ti29 : TI := { size := 8, bytes := 96, agg := true, k := .st [(0, 3), (1, 3), (2, 3), (3, 3), (4, 22), (5, 3), (6, 22), (7, 3)], zero := [.t (.int .i64 0), .t (.int .i64 0), .t (.int .i64 0), .t (.int .i64 0), .nil, .t (.int .i64 0), .nil, .t (.int .i64 0)] }
theorem ti29_ok : TIok Try.prog 29 ti29 := TIok.mk_ (z := .agg #[.int .i64 0, .int .i64 0, .int .i64 0, .int .i64 0, .slice none 0 0, .int .i64 0, .slice none 0 0, .int .i64 0]) (by kernel_rfl) rfl rfl Try.underlying29 rfl ⟨_, rfl, rfl, fieldsOk_of (by kernel_rfl)⟩ (by kernel_rfl) (fun h => by cases h)
def ti40 : TI := { size := 1, bytes := 24, agg := false, k := .sl 183, zero := [.nil] }
theorem ti40_ok : TIok Try.prog 40 ti40 := TIok.mk_ (z := .slice none 0 0) (by kernel_rfl) rfl rfl Try.underlying40 rfl rfl (by kernel_rfl) (fun h => by cases h)
def ti41 : TI := { size := 5, bytes := 56, agg := true, k := .st [(0, 3), (1, 3), (2, 3), (3, 40), (4, 3)], zero := [.t (.int .i64 0), .t (.int .i64 0), .t (.int .i64 0), .nil, .t (.int .i64 0)] }
theorem ti41_ok : TIok Try.prog 41 ti41 := TIok.mk_ (z := .agg #[.int .i64 0, .int .i64 0, .int .i64 0, .slice none 0 0, .int .i64 0]) (by kernel_rfl) rfl rfl Try.underlying41 rfl ⟨_, rfl, rfl, fieldsOk_of (by kernel_rfl)⟩ (by kernel_rfl) (fun h => by cases h)
def ti42 : TI := { size := 5, bytes := 56, agg := true, k := .st [(0, 3), (1, 3), (2, 3), (3, 40), (4, 3)], zero := [.t (.int .i64 0), .t (.int .i64 0), .t (.int .i64 0), .nil, .t (.int .i64 0)] }
theorem ti42_ok : TIok Try.prog 42 ti42 := TIok.mk_ (z := .agg #[.int .i64 0, .int .i64 0, .int .i64 0, .slice none 0 0, .int .i64 0]) (by kernel_rfl) rfl rfl Try.underlying42 rfl ⟨_, rfl, rfl, fieldsOk_of (by kernel_rfl)⟩ (by kernel_rfl) (fun h => by cases h)
def ti43 : TI := { size := 1, bytes := 24, agg := true, k := .st [(0, 22)], zero := [.nil] }
theorem ti43_ok : TIok Try.prog 43 ti43 := TIok.mk_ (z := .agg #[.slice none 0 0]) (by kernel_rfl) rfl rfl Try.underlying43 rfl ⟨_, rfl, rfl, fieldsOk_of (by kernel_rfl)⟩ (by kernel_rfl) (fun h => by cases h)
def ti44 : TI := { size := 1, bytes := 24, agg := true, k := .st [(0, 22)], zero := [.nil] }
theorem ti44_ok : TIok Try.prog 44 ti44 := TIok.mk_ (z := .agg #[.slice none 0 0]) (by kernel_rfl) rfl rfl Try.underlying44 rfl ⟨_, rfl, rfl, fieldsOk_of (by kernel_rfl)⟩ (by kernel_rfl) (fun h => by cases h)
def ti45 : TI := { size := 1, bytes := 24, agg := false, k := .sl 143, zero := [.nil] }
theorem ti45_ok : TIok Try.prog 45 ti45 := TIok.mk_ (z := .slice none 0 0) (by kernel_rfl) rfl rfl Try.underlying45 rfl rfl (by kernel_rfl) (fun h => by cases h)
def ti50 : TI := { size := 1, bytes := 24, agg := false, k := .sl 186, zero := [.nil] }
theorem ti50_ok : TIok Try.prog 50 ti50 := TIok.mk_ (z := .slice none 0 0) (by kernel_rfl) rfl rfl Try.underlying50 rfl rfl (by kernel_rfl) (fun h => by cases h)
def ti51 : TI := { size := 5, bytes := 56, agg := true, k := .st [(0, 3), (1, 3), (2, 3), (3, 50), (4, 3)], zero := [.t (.int .i64 0), .t (.int .i64 0), .t (.int .i64 0), .nil, .t (.int .i64 0)] }
theorem ti51_ok : TIok Try.prog 51 ti51 := TIok.mk_ (z := .agg #[.int .i64 0, .int .i64 0, .int .i64 0, .slice none 0 0, .int .i64 0]) (by kernel_rfl) rfl rfl Try.underlying51 rfl ⟨_, rfl, rfl, fieldsOk_of (by kernel_rfl)⟩ (by kernel_rfl) (fun h => by cases h)
def ti52 : TI := { size := 5, bytes := 56, agg := true, k := .st [(0, 3), (1, 3), (2, 3), (3, 50), (4, 3)], zero := [.t (.int .i64 0), .t (.int .i64 0), .t (.int .i64 0), .nil, .t (.int .i64 0)] }
theorem ti52_ok : TIok Try.prog 52 ti52 := TIok.mk_ (z := .agg #[.int .i64 0, .int .i64 0, .int .i64 0, .slice none 0 0, .int .i64 0]) (by kernel_rfl) rfl rfl Try.underlying52 rfl ⟨_, rfl, rfl, fieldsOk_of (by kernel_rfl)⟩ (by kernel_rfl) (fun h => by cases h)
def ti54 : TI := { size := 1, bytes := 24, agg := true, k := .st [(0, 22)], zero := [.nil] }
theorem ti54_ok : TIok Try.prog 54 ti54 := TIok.mk_ (z := .agg #[.slice none 0 0]) (by kernel_rfl) rfl rfl Try.underlying54 rfl ⟨_, rfl, rfl, fieldsOk_of (by kernel_rfl)⟩ (by kernel_rfl) (fun h => by cases h)
def ti56 : TI := { size := 1, bytes := 24, agg := false, k := .sl 134, zero := [.nil] }
theorem ti56_ok : TIok Try.prog 56 ti56 := TIok.mk_ (z := .slice none 0 0) (by kernel_rfl) rfl rfl Try.underlying56 rfl rfl (by kernel_rfl) (fun h => by cases h)
def ti62 : TI := { size := 1, bytes := 24, agg := false, k := .sl 42, zero := [.nil] }
theorem ti62_ok : TIok Try.prog 62 ti62 := TIok.mk_ (z := .slice none 0 0) (by kernel_rfl) rfl rfl Try.underlying62 rfl rfl (by kernel_rfl) (fun h => by cases h)
def ti63 : TI := { size := 1, bytes := 24, agg := false, k := .sl 82, zero := [.nil] }
theorem ti63_ok : TIok Try.prog 63 ti63 := TIok.mk_ (z := .slice none 0 0) (by kernel_rfl) rfl rfl Try.underlying63 rfl rfl (by kernel_rfl) (fun h => by cases h)
def ti64 : TI := { size := 1, bytes := 24, agg := false, k := .sl 212, zero := [.nil] }
theorem ti64_ok : TIok Try.prog 64 ti64 := TIok.mk_ (z := .slice none 0 0) (by kernel_rfl) rfl rfl Try.underlying64 rfl rfl (by kernel_rfl) (fun h => by cases h)
def ti65 : TI := { size := 2, bytes := 32, agg := true, k := .st [(0, 3), (1, 64)], zero := [.t (.int .i64 0), .nil] }
theorem ti65_ok : TIok Try.prog 65 ti65 := TIok.mk_ (z := .agg #[.int .i64 0, .slice none 0 0]) (by kernel_rfl) rfl rfl Try.underlying65 rfl ⟨_, rfl, rfl, fieldsOk_of (by kernel_rfl)⟩ (by kernel_rfl) (fun h => by cases h)
def ti66 : TI := { size := 2, bytes := 32, agg := true, k := .st [(0, 3), (1, 64)], zero := [.t (.int .i64 0), .nil] }
theorem ti66_ok : TIok Try.prog 66 ti66 := TIok.mk_ (z := .agg #[.int .i64 0, .slice none 0 0]) (by kernel_rfl) rfl rfl Try.underlying66 rfl ⟨_, rfl, rfl, fieldsOk_of (by kernel_rfl)⟩ (by kernel_rfl) (fun h => by cases h)
def ti67 : TI := { size := 1, bytes := 24, agg := false, k := .sl 3, zero := [.nil] }
theorem ti67_ok : TIok Try.prog 67 ti67 := TIok.mk_ (z := .slice none 0 0) (by kernel_rfl) rfl rfl Try.underlying67 rfl rfl (by kernel_rfl) (fun h => by cases h)
def ti68 : TI := { size := 10, bytes := 144, agg := true, k := .st [(0, 3), (1, 62), (2, 63), (3, 66), (5, 3), (6, 3), (7, 3), (8, 67), (9, 3)], zero := [.t (.int .i64 0), .nil, .nil, .t (.int .i64 0), .nil, .t (.int .i64 0), .t (.int .i64 0), .t (.int .i64 0), .nil, .t (.int .i64 0)] }
theorem ti68_ok : TIok Try.prog 68 ti68 := TIok.mk_ (z := .agg #[.int .i64 0, .slice none 0 0, .slice none 0 0, .int .i64 0, .slice none 0 0, .int .i64 0, .int .i64 0, .int .i64 0, .slice none 0 0, .int .i64 0]) (by kernel_rfl) rfl rfl Try.underlying68 rfl ⟨_, rfl, rfl, fieldsOk_of (by kernel_rfl)⟩ (by kernel_rfl) (fun h => by cases h)
def ti69 : TI := { size := 10, bytes := 144, agg := true, k := .st [(0, 3), (1, 62), (2, 63), (3, 66), (5, 3), (6, 3), (7, 3), (8, 67), (9, 3)], zero := [.t (.int .i64 0), .nil, .nil, .t (.int .i64 0), .nil, .t (.int .i64 0), .t (.int .i64 0), .t (.int .i64 0), .nil, .t (.int .i64 0)] }
theorem ti69_ok : TIok Try.prog 69 ti69 := TIok.mk_ (z := .agg #[.int .i64 0, .slice none 0 0, .slice none 0 0, .int .i64 0, .slice none 0 0, .int .i64 0, .int .i64 0, .int .i64 0, .slice none 0 0, .int .i64 0]) (by kernel_rfl) rfl rfl Try.underlying69 rfl ⟨_, rfl, rfl, fieldsOk_of (by kernel_rfl)⟩ (by kernel_rfl) (fun h => by cases h)
def ti72 : TI := { size := 1, bytes := 24, agg := false, k := .sl 52, zero := [.nil] }
theorem ti72_ok : TIok Try.prog 72 ti72 := TIok.mk_ (z := .slice none 0 0) (by kernel_rfl) rfl rfl Try.underlying72 rfl rfl (by kernel_rfl) (fun h => by cases h)
def ti73 : TI := { size := 1, bytes := 24, agg := false, k := .sl 85, zero := [.nil] }
theorem ti73_ok : TIok Try.prog 73 ti73 := TIok.mk_ (z := .slice none 0 0) (by kernel_rfl) rfl rfl Try.underlying73 rfl rfl (by kernel_rfl) (fun h => by cases h)
def ti74 : TI := { size := 1, bytes := 24, agg := false, k := .sl 196, zero := [.nil] }
theorem ti74_ok : TIok Try.prog 74 ti74 := TIok.mk_ (z := .slice none 0 0) (by kernel_rfl) rfl rfl Try.underlying74 rfl rfl (by kernel_rfl) (fun h => by cases h)
def ti75 : TI := { size := 2, bytes := 32, agg := true, k := .st [(0, 3), (1, 74)], zero := [.t (.int .i64 0), .nil] }
theorem ti75_ok : TIok Try.prog 75 ti75 := TIok.mk_ (z := .agg #[.int .i64 0, .slice none 0 0]) (by kernel_rfl) rfl rfl Try.underlying75 rfl ⟨_, rfl, rfl, fieldsOk_of (by kernel_rfl)⟩ (by kernel_rfl) (fun h => by cases h)
def ti76 : TI := { size := 2, bytes := 32, agg := true, k := .st [(0, 3), (1, 74)], zero := [.t (.int .i64 0), .nil] }
theorem ti76_ok : TIok Try.prog 76 ti76 := TIok.mk_ (z := .agg #[.int .i64 0, .slice none 0 0]) (by kernel_rfl) rfl rfl Try.underlying76 rfl ⟨_, rfl, rfl, fieldsOk_of (by kernel_rfl)⟩ (by kernel_rfl) (fun h => by cases h)
def ti77 : TI := { size := 10, bytes := 144, agg := true, k := .st [(0, 3), (1, 72), (2, 73), (3, 76), (5, 3), (6, 3), (7, 3), (8, 67), (9, 3)], zero := [.t (.int .i64 0), .nil, .nil, .t (.int .i64 0), .nil, .t (.int .i64 0), .t (.int .i64 0), .t (.int .i64 0), .nil, .t (.int .i64 0)] }
theorem ti77_ok : TIok Try.prog 77 ti77 := TIok.mk_ (z := .agg #[.int .i64 0, .slice none 0 0, .slice none 0 0, .int .i64 0, .slice none 0 0, .int .i64 0, .int .i64 0, .int .i64 0, .slice none 0 0, .int .i64 0]) (by kernel_rfl) rfl rfl Try.underlying77 rfl ⟨_, rfl, rfl, fieldsOk_of (by kernel_rfl)⟩ (by kernel_rfl) (fun h => by cases h)
def ti78 : TI := { size := 10, bytes := 144, agg := true, k := .st [(0, 3), (1, 72), (2, 73), (3, 76), (5, 3), (6, 3), (7, 3), (8, 67), (9, 3)], zero := [.t (.int .i64 0), .nil, .nil, .t (.int .i64 0), .nil, .t (.int .i64 0), .t (.int .i64 0), .t (.int .i64 0), .nil, .t (.int .i64 0)] }
theorem ti78_ok : TIok Try.prog 78 ti78 := TIok.mk_ (z := .agg #[.int .i64 0, .slice none 0 0, .slice none 0 0, .int .i64 0, .slice none 0 0, .int .i64 0, .int .i64 0, .int .i64 0, .slice none 0 0, .int .i64 0]) (by kernel_rfl) rfl rfl Try.underlying78 rfl ⟨_, rfl, rfl, fieldsOk_of (by kernel_rfl)⟩ (by kernel_rfl) (fun h => by cases h)
def ti81 : TI := { size := 16, bytes := 192, agg := true, k := .st [(0, 24), (8, 24)], zero := [.t (.int .i64 0), .t (.int .i64 0), .t (.int .i64 0), .t (.int .i64 0), .nil, .t (.int .i64 0), .nil, .t (.int .i64 0), .t (.int .i64 0), .t (.int .i64 0), .t (.int .i64 0), .t (.int .i64 0), .nil, .t (.int .i64 0), .nil, .t (.int .i64 0)] }
theorem ti81_ok : TIok Try.prog 81 ti81 := TIok.mk_ (z := .agg #[.int .i64 0, .int .i64 0, .int .i64 0, .int .i64 0, .slice none 0 0, .int .i64 0, .slice none 0 0, .int .i64 0, .int .i64 0, .int .i64 0, .int .i64 0, .int .i64 0, .slice none 0 0, .int .i64 0, .slice none 0 0, .int .i64 0]) (by kernel_rfl) rfl rfl Try.underlying81 rfl ⟨_, rfl, rfl, fieldsOk_of (by kernel_rfl)⟩ (by kernel_rfl) (fun h => by cases h)
def ti82 : TI := { size := 16, bytes := 192, agg := true, k := .st [(0, 24), (8, 24)], zero := [.t (.int .i64 0), .t (.int .i64 0), .t (.int .i64 0), .t (.int .i64 0), .nil, .t (.int .i64 0), .nil, .t (.int .i64 0), .t (.int .i64 0), .t (.int .i64 0), .t (.int .i64 0), .t (.int .i64 0), .nil, .t (.int .i64 0), .nil, .t (.int .i64 0)] }
theorem ti82_ok : TIok Try.prog 82 ti82 := TIok.mk_ (z := .agg #[.int .i64 0, .int .i64 0, .int .i64 0, .int .i64 0, .slice none 0 0, .int .i64 0, .slice none 0 0, .int .i64 0, .int .i64 0, .int .i64 0, .int .i64 0, .int .i64 0, .slice none 0 0, .int .i64 0, .slice none 0 0, .int .i64 0]) (by kernel_rfl) rfl rfl Try.underlying82 rfl ⟨_, rfl, rfl, fieldsOk_of (by kernel_rfl)⟩ (by kernel_rfl) (fun h => by cases h)
def ti84 : TI := { size := 16, bytes := 192, agg := true, k := .st [(0, 29), (8, 29)], zero := [.t (.int .i64 0), .t (.int .i64 0), .t (.int .i64 0), .t (.int .i64 0), .nil, .t (.int .i64 0), .nil, .t (.int .i64 0), .t (.int .i64 0), .t (.int .i64 0), .t (.int .i64 0), .t (.int .i64 0), .nil, .t (.int .i64 0), .nil, .t (.int .i64 0)] }
theorem ti84_ok : TIok Try.prog 84 ti84 := TIok.mk_ (z := .agg #[.int .i64 0, .int .i64 0, .int .i64 0, .int .i64 0, .slice none 0 0, .int .i64 0, .slice none 0 0, .int .i64 0, .int .i64 0, .int .i64 0, .int .i64 0, .int .i64 0, .slice none 0 0, .int .i64 0, .slice none 0 0, .int .i64 0]) (by kernel_rfl) rfl rfl Try.underlying84 rfl ⟨_, rfl, rfl, fieldsOk_of (by kernel_rfl)⟩ (by kernel_rfl) (fun h => by cases h)
def ti85 : TI := { size := 16, bytes := 192, agg := true, k := .st [(0, 29), (8, 29)], zero := [.t (.int .i64 0), .t (.int .i64 0), .t (.int .i64 0), .t (.int .i64 0), .nil, .t (.int .i64 0), .nil, .t (.int .i64 0), .t (.int .i64 0), .t (.int .i64 0), .t (.int .i64 0), .t (.int .i64 0), .nil, .t (.int .i64 0), .nil, .t (.int .i64 0)] }
theorem ti85_ok : TIok Try.prog 85 ti85 := TIok.mk_ (z := .agg #[.int .i64 0, .int .i64 0, .int .i64 0, .int .i64 0, .slice none 0 0, .int .i64 0, .slice none 0 0, .int .i64 0, .int .i64 0, .int .i64 0, .int .i64 0, .int .i64 0, .slice none 0 0, .int .i64 0, .slice none 0 0, .int .i64 0]) (by kernel_rfl) rfl rfl Try.underlying85 rfl ⟨_, rfl, rfl, fieldsOk_of (by kernel_rfl)⟩ (by kernel_rfl) (fun h => by cases h)
def ti101 : TI := { size := 1, bytes := 24, agg := false, k := .sl 44, zero := [.nil] }
theorem ti101_ok : TIok Try.prog 101 ti101 := TIok.mk_ (z := .slice none 0 0) (by kernel_rfl) rfl rfl Try.underlying101 rfl rfl (by kernel_rfl) (fun h => by cases h)
def ti106 : TI := { size := 1, bytes := 24, agg := false, k := .sl 54, zero := [.nil] }
theorem ti106_ok : TIok Try.prog 106 ti106 := TIok.mk_ (z := .slice none 0 0) (by kernel_rfl) rfl rfl Try.underlying106 rfl rfl (by kernel_rfl) (fun h => by cases h)
def ti127 : TI := { size := 2, bytes := 32, agg := true, k := .st [(0, 3), (1, 26)], zero := [.t (.int .i64 0), .nil] }
theorem ti127_ok : TIok Try.prog 127 ti127 := TIok.mk_ (z := .agg #[.int .i64 0, .slice none 0 0]) (by kernel_rfl) rfl rfl Try.underlying127 rfl ⟨_, rfl, rfl, fieldsOk_of (by kernel_rfl)⟩ (by kernel_rfl) (fun h => by cases h)
def ti128 : TI := { size := 2, bytes := 32, agg := true, k := .st [(0, 3), (1, 26)], zero := [.t (.int .i64 0), .nil] }
theorem ti128_ok : TIok Try.prog 128 ti128 := TIok.mk_ (z := .agg #[.int .i64 0, .slice none 0 0]) (by kernel_rfl) rfl rfl Try.underlying128 rfl ⟨_, rfl, rfl, fieldsOk_of (by kernel_rfl)⟩ (by kernel_rfl) (fun h => by cases h)
def ti133 : TI := { size := 5, bytes := 40, agg := true, k := .st [(0, 3), (1, 3), (2, 3), (3, 3), (4, 3)], zero := [.t (.int .i64 0), .t (.int .i64 0), .t (.int .i64 0), .t (.int .i64 0), .t (.int .i64 0)], cmp := true }
theorem ti133_ok : TIok Try.prog 133 ti133 := TIok.mk_ (z := .agg #[.int .i64 0, .int .i64 0, .int .i64 0, .int .i64 0, .int .i64 0]) (by kernel_rfl) rfl rfl Try.underlying133 rfl ⟨_, rfl, rfl, fieldsOk_of (by kernel_rfl)⟩ (by kernel_rfl) (tiEq_of Try.prog 133 ti133 (by kernel_rfl) (by kernel_rfl) Try.underlying133 rfl (by kernel_rfl))
def ti134 : TI := { size := 5, bytes := 40, agg := true, k := .st [(0, 3), (1, 3), (2, 3), (3, 3), (4, 3)], zero := [.t (.int .i64 0), .t (.int .i64 0), .t (.int .i64 0), .t (.int .i64 0), .t (.int .i64 0)], cmp := true }
theorem ti134_ok : TIok Try.prog 134 ti134 := TIok.mk_ (z := .agg #[.int .i64 0, .int .i64 0, .int .i64 0, .int .i64 0, .int .i64 0]) (by kernel_rfl) rfl rfl Try.underlying134 rfl ⟨_, rfl, rfl, fieldsOk_of (by kernel_rfl)⟩ (by kernel_rfl) (tiEq_of Try.prog 134 ti134 (by kernel_rfl) (by kernel_rfl) Try.underlying134 rfl (by kernel_rfl))
def ti143 : TI := { size := 5, bytes := 40, agg := true, k := .st [(0, 3), (1, 3), (2, 3), (3, 3), (4, 3)], zero := [.t (.int .i64 0), .t (.int .i64 0), .t (.int .i64 0), .t (.int .i64 0), .t (.int .i64 0)], cmp := true }
theorem ti143_ok : TIok Try.prog 143 ti143 := TIok.mk_ (z := .agg #[.int .i64 0, .int .i64 0, .int .i64 0, .int .i64 0, .int .i64 0]) (by kernel_rfl) rfl rfl Try.underlying143 rfl ⟨_, rfl, rfl, fieldsOk_of (by kernel_rfl)⟩ (by kernel_rfl) (tiEq_of Try.prog 143 ti143 (by kernel_rfl) (by kernel_rfl) Try.underlying143 rfl (by kernel_rfl))
def ti176 : TI := { size := 1, bytes := 8, agg := false, k := .int .u64, zero := [.t (.int .u64 0)] }
theorem ti176_ok : TIok Try.prog 176 ti176 := TIok.mk_ (z := .int .u64 0) (by kernel_rfl) rfl rfl Try.underlying176 rfl rfl (by kernel_rfl) (fun h => by cases h)
def ti182 : TI := { size := 2, bytes := 32, agg := true, k := .st [(0, 3), (1, 44)], zero := [.t (.int .i64 0), .nil] }
theorem ti182_ok : TIok Try.prog 182 ti182 := TIok.mk_ (z := .agg #[.int .i64 0, .slice none 0 0]) (by kernel_rfl) rfl rfl Try.underlying182 rfl ⟨_, rfl, rfl, fieldsOk_of (by kernel_rfl)⟩ (by kernel_rfl) (fun h => by cases h)
def ti183 : TI := { size := 2, bytes := 32, agg := true, k := .st [(0, 3), (1, 44)], zero := [.t (.int .i64 0), .nil] }
theorem ti183_ok : TIok Try.prog 183 ti183 := TIok.mk_ (z := .agg #[.int .i64 0, .slice none 0 0]) (by kernel_rfl) rfl rfl Try.underlying183 rfl ⟨_, rfl, rfl, fieldsOk_of (by kernel_rfl)⟩ (by kernel_rfl) (fun h => by cases h)
def ti185 : TI := { size := 2, bytes := 32, agg := true, k := .st [(0, 3), (1, 54)], zero := [.t (.int .i64 0), .nil] }
theorem ti185_ok : TIok Try.prog 185 ti185 := TIok.mk_ (z := .agg #[.int .i64 0, .slice none 0 0]) (by kernel_rfl) rfl rfl Try.underlying185 rfl ⟨_, rfl, rfl, fieldsOk_of (by kernel_rfl)⟩ (by kernel_rfl) (fun h => by cases h)
def ti186 : TI := { size := 2, bytes := 32, agg := true, k := .st [(0, 3), (1, 54)], zero := [.t (.int .i64 0), .nil] }
theorem ti186_ok : TIok Try.prog 186 ti186 := TIok.mk_ (z := .agg #[.int .i64 0, .slice none 0 0]) (by kernel_rfl) rfl rfl Try.underlying186 rfl ⟨_, rfl, rfl, fieldsOk_of (by kernel_rfl)⟩ (by kernel_rfl) (fun h => by cases h)
def ti195 : TI := { size := 2, bytes := 32, agg := true, k := .st [(0, 3), (1, 54)], zero := [.t (.int .i64 0), .nil] }
theorem ti195_ok : TIok Try.prog 195 ti195 := TIok.mk_ (z := .agg #[.int .i64 0, .slice none 0 0]) (by kernel_rfl) rfl rfl Try.underlying195 rfl ⟨_, rfl, rfl, fieldsOk_of (by kernel_rfl)⟩ (by kernel_rfl) (fun h => by cases h)
def ti196 : TI := { size := 2, bytes := 32, agg := true, k := .st [(0, 3), (1, 54)], zero := [.t (.int .i64 0), .nil] }
theorem ti196_ok : TIok Try.prog 196 ti196 := TIok.mk_ (z := .agg #[.int .i64 0, .slice none 0 0]) (by kernel_rfl) rfl rfl Try.underlying196 rfl ⟨_, rfl, rfl, fieldsOk_of (by kernel_rfl)⟩ (by kernel_rfl) (fun h => by cases h)
def ti204 : TI := { size := 1, bytes := 24, agg := false, k := .sl 67, zero := [.nil] }
theorem ti204_ok : TIok Try.prog 204 ti204 := TIok.mk_ (z := .slice none 0 0) (by kernel_rfl) rfl rfl Try.underlying204 rfl rfl (by kernel_rfl) (fun h => by cases h)
def ti211 : TI := { size := 2, bytes := 32, agg := true, k := .st [(0, 3), (1, 44)], zero := [.t (.int .i64 0), .nil] }
theorem ti211_ok : TIok Try.prog 211 ti211 := TIok.mk_ (z := .agg #[.int .i64 0, .slice none 0 0]) (by kernel_rfl) rfl rfl Try.underlying211 rfl ⟨_, rfl, rfl, fieldsOk_of (by kernel_rfl)⟩ (by kernel_rfl) (fun h => by cases h)
def ti212 : TI := { size := 2, bytes := 32, agg := true, k := .st [(0, 3), (1, 44)], zero := [.t (.int .i64 0), .nil] }
theorem ti212_ok : TIok Try.prog 212 ti212 := TIok.mk_ (z := .agg #[.int .i64 0, .slice none 0 0]) (by kernel_rfl) rfl rfl Try.underlying212 rfl ⟨_, rfl, rfl, fieldsOk_of (by kernel_rfl)⟩ (by kernel_rfl) (fun h => by cases h)
def ti223 : TI := { size := 1, bytes := 4, agg := false, k := .int .u32, zero := [.t (.int .u32 0)] }
theorem ti223_ok : TIok Try.prog 223 ti223 := TIok.mk_ (z := .int .u32 0) (by kernel_rfl) rfl rfl Try.underlying223 rfl rfl (by kernel_rfl) (fun h => by cases h)
def tys : List (Nat × TI) := [(2, ti2), (3, ti3), (4, ti4), (5, ti5), (9, ti9), (12, ti12), (13, ti13), (21, ti21), (22, ti22), (23, ti23), (24, ti24), (26, ti26), (29, ti29), (40, ti40), (41, ti41), (42, ti42), (43, ti43), (44, ti44), (45, ti45), (50, ti50), (51, ti51), (52, ti52), (54, ti54), (56, ti56), (62, ti62), (63, ti63), (64, ti64), (65, ti65), (66, ti66), (67, ti67), (68, ti68), (69, ti69), (72, ti72), (73, ti73), (74, ti74), (75, ti75), (76, ti76), (77, ti77), (78, ti78), (81, ti81), (82, ti82), (84, ti84), (85, ti85), (101, ti101), (106, ti106), (127, ti127), (128, ti128), (133, ti133), (134, ti134), (143, ti143), (176, ti176), (182, ti182), (183, ti183), (185, ti185), (186, ti186), (195, ti195), (196, ti196), (204, ti204), (211, ti211), (212, ti212), (223, ti223)]
theorem tys_ok : TOk Try.prog (get tys) :=
  tok_of (by
    intro p hp
    simp only [tys, List.mem_cons, List.not_mem_nil, or_false] at hp
    rcases hp with rfl | rfl | rfl | rfl | rfl | rfl | rfl | rfl | rfl | rfl | rfl | rfl | rfl | rfl | rfl | rfl | rfl | rfl | rfl | rfl | rfl | rfl | rfl | rfl | rfl | rfl | rfl | rfl | rfl | rfl | rfl | rfl | rfl | rfl | rfl | rfl | rfl | rfl | rfl | rfl | rfl | rfl | rfl | rfl | rfl | rfl | rfl | rfl | rfl | rfl | rfl | rfl | rfl | rfl | rfl | rfl | rfl | rfl | rfl | rfl | rfl
    · exact ti2_ok
    · exact ti3_ok
    · exact ti4_ok
    · exact ti5_ok
    · exact ti9_ok
    · exact ti12_ok
    · exact ti13_ok
    · exact ti21_ok
    · exact ti22_ok
    · exact ti23_ok
    · exact ti24_ok
    · exact ti26_ok
    · exact ti29_ok
    · exact ti40_ok
    · exact ti41_ok
    · exact ti42_ok
    · exact ti43_ok
    · exact ti44_ok
    · exact ti45_ok
    · exact ti50_ok
    · exact ti51_ok
    · exact ti52_ok
    · exact ti54_ok
    · exact ti56_ok
    · exact ti62_ok
    · exact ti63_ok
    · exact ti64_ok
    · exact ti65_ok
    · exact ti66_ok
    · exact ti67_ok
    · exact ti68_ok
    · exact ti69_ok
    · exact ti72_ok
    · exact ti73_ok
    · exact ti74_ok
    · exact ti75_ok
    · exact ti76_ok
    · exact ti77_ok
    · exact ti78_ok
    · exact ti81_ok
    · exact ti82_ok
    · exact ti84_ok
    · exact ti85_ok
    · exact ti101_ok
    · exact ti106_ok
    · exact ti127_ok
    · exact ti128_ok
    · exact ti133_ok
    · exact ti134_ok
    · exact ti143_ok
    · exact ti176_ok
    · exact ti182_ok
    · exact ti183_ok
    · exact ti185_ok
    · exact ti186_ok
    · exact ti195_ok
    · exact ti196_ok
    · exact ti204_ok
    · exact ti211_ok
    · exact ti212_ok
    · exact ti223_ok)
/-- The contract of a function of this program, from the evaluation of its body. -/
theorem fn_of {f : FuncId} {fn : Func} {c : Code} (hf : Try.prog.funcs[f]? = some fn) (hb : fn.body = some c) (hn : (fn.name == "runtime.NumGoroutine") = false) {args : List V} {rs : List RV} (hlen : Nat.ble args.length fn.ntmps = true)
    (h : ev Try.prog (get tys) fn.ntmps c (retK (get tys) fn.results.toList rs) ⟨initEnv 0 args, [], 0⟩) : FnAt Try.prog f args rs :=
  fnAt_of tys_ok (by kernel_rfl) hf hb hn hlen h
/-- The same for one that writes in place. -/
theorem mut_of {f : FuncId} {fn : Func} {c : Code} (hf : Try.prog.funcs[f]? = some fn) (hb : fn.body = some c) (hn : (fn.name == "runtime.NumGoroutine") = false) {m m' : RV} {xs : List V} {y : T} (hlen : Nat.ble (xs.length + 1) fn.ntmps = true)
    (has : ∀ x ∈ xs, ∃ z, x = .one z ∧ isScal z = true) (hy : isScal y = true) (h : ev Try.prog (get tys) fn.ntmps c (retM (get tys) fn.results.toList m' y) (mSt m xs)) : MutAt Try.prog f m m' xs y :=
  mutAt_of tys_ok (by kernel_rfl) hf hb hn hlen has hy h
end Go.Proofs.Ytmkgakabmffibaa
