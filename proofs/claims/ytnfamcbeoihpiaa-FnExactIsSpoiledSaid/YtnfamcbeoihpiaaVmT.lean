/-
  The table of this seat's types for the program logic, written by a program of ours off the translation; each entry is held against the program by the kernel.
  Conditions: none.
-/
import Derived.Test.YtnfamcbeoihpiaaProg
import Derived.Test.YtnfamcbeoihpiaaVmP
import Derived.Test.YtnfamcbeoihpiaaVmU
namespace Go.Proofs.Ytnfamcbeoihpiaa
open Go.Vm Go.RowKit

def ti2 : TI := { size := 1, bytes := 8, agg := false, k := .int .i64, zero := [.t (.int .i64 0)] }
theorem ti2_ok : TIok Try.prog 2 ti2 := TIok.mk_ (z := .int .i64 0) (by kernel_rfl) rfl rfl Try.underlying2 rfl rfl (by kernel_rfl) (fun h => by cases h)
def ti3 : TI := { size := 1, bytes := 8, agg := false, k := .int .i64, zero := [.t (.int .i64 0)] }
theorem ti3_ok : TIok Try.prog 3 ti3 := TIok.mk_ (z := .int .i64 0) (by kernel_rfl) rfl rfl Try.underlying3 rfl rfl (by kernel_rfl) (fun h => by cases h)
def ti4 : TI := { size := 1, bytes := 1, agg := false, k := .bool, zero := [.t (.bool false)] }
theorem ti4_ok : TIok Try.prog 4 ti4 := TIok.mk_ (z := .bool false) (by kernel_rfl) rfl rfl Try.underlying4 rfl rfl (by kernel_rfl) (fun h => by cases h)
def ti5 : TI := { size := 1, bytes := 1, agg := false, k := .int .u8, zero := [.t (.int .u8 0)] }
theorem ti5_ok : TIok Try.prog 5 ti5 := TIok.mk_ (z := .int .u8 0) (by kernel_rfl) rfl rfl Try.underlying5 rfl rfl (by kernel_rfl) (fun h => by cases h)
def ti9 : TI := { size := 1, bytes := 16, agg := false, k := .str, zero := [.t (.str ByteArray.empty)] }
theorem ti9_ok : TIok Try.prog 9 ti9 := TIok.mk_ (z := .string ByteArray.empty) (by kernel_rfl) rfl rfl Try.underlying9 rfl rfl (by kernel_rfl) (fun h => by cases h)
def ti12 : TI := { size := 1, bytes := 8, agg := false, k := .int .u64, zero := [.t (.int .u64 0)] }
theorem ti12_ok : TIok Try.prog 12 ti12 := TIok.mk_ (z := .int .u64 0) (by kernel_rfl) rfl rfl Try.underlying12 rfl rfl (by kernel_rfl) (fun h => by cases h)
def ti13 : TI := { size := 2, bytes := 24, agg := true, k := .st [(0, 9), (1, 12)], zero := [.t (.str ByteArray.empty), .t (.int .u64 0)] }
theorem ti13_ok : TIok Try.prog 13 ti13 := TIok.mk_ (z := .agg #[.string ByteArray.empty, .int .u64 0]) (by kernel_rfl) rfl rfl Try.underlying13 rfl ⟨_, rfl, rfl, fieldsOk_of (by kernel_rfl)⟩ (by kernel_rfl) (fun h => by cases h)
def ti21 : TI := { size := 1, bytes := 4, agg := false, k := .int .i32, zero := [.t (.int .i32 0)] }
theorem ti21_ok : TIok Try.prog 21 ti21 := TIok.mk_ (z := .int .i32 0) (by kernel_rfl) rfl rfl Try.underlying21 rfl rfl (by kernel_rfl) (fun h => by cases h)
def ti22 : TI := { size := 1, bytes := 24, agg := false, k := .sl 158, zero := [.nil] }
theorem ti22_ok : TIok Try.prog 22 ti22 := TIok.mk_ (z := .slice none 0 0) (by kernel_rfl) rfl rfl Try.underlying22 rfl rfl (by kernel_rfl) (fun h => by cases h)
def ti23 : TI := { size := 2, bytes := 32, agg := true, k := .st [(0, 3), (1, 22)], zero := [.t (.int .i64 0), .nil] }
theorem ti23_ok : TIok Try.prog 23 ti23 := TIok.mk_ (z := .agg #[.int .i64 0, .slice none 0 0]) (by kernel_rfl) rfl rfl Try.underlying23 rfl ⟨_, rfl, rfl, fieldsOk_of (by kernel_rfl)⟩ (by kernel_rfl) (fun h => by cases h)
def ti24 : TI := { size := 2, bytes := 32, agg := true, k := .st [(0, 3), (1, 22)], zero := [.t (.int .i64 0), .nil] }
theorem ti24_ok : TIok Try.prog 24 ti24 := TIok.mk_ (z := .agg #[.int .i64 0, .slice none 0 0]) (by kernel_rfl) rfl rfl Try.underlying24 rfl ⟨_, rfl, rfl, fieldsOk_of (by kernel_rfl)⟩ (by kernel_rfl) (fun h => by cases h)
def ti26 : TI := { size := 1, bytes := 24, agg := false, k := .sl 40, zero := [.nil] }
theorem ti26_ok : TIok Try.prog 26 ti26 := TIok.mk_ (z := .slice none 0 0) (by kernel_rfl) rfl rfl Try.underlying26 rfl rfl (by kernel_rfl) (fun h => by cases h)
def ti27 : TI := { size := 1, bytes := 24, agg := true, k := .st [(0, 26)], zero := [.nil] }
theorem ti27_ok : TIok Try.prog 27 ti27 := TIok.mk_ (z := .agg #[.slice none 0 0]) (by kernel_rfl) rfl rfl Try.underlying27 rfl ⟨_, rfl, rfl, fieldsOk_of (by kernel_rfl)⟩ (by kernel_rfl) (fun h => by cases h)
def ti28 : TI := { size := 1, bytes := 24, agg := true, k := .st [(0, 26)], zero := [.nil] }
theorem ti28_ok : TIok Try.prog 28 ti28 := TIok.mk_ (z := .agg #[.slice none 0 0]) (by kernel_rfl) rfl rfl Try.underlying28 rfl ⟨_, rfl, rfl, fieldsOk_of (by kernel_rfl)⟩ (by kernel_rfl) (fun h => by cases h)
def ti31 : TI := { size := 1, bytes := 24, agg := false, k := .sl 110, zero := [.nil] }
theorem ti31_ok : TIok Try.prog 31 ti31 := TIok.mk_ (z := .slice none 0 0) (by kernel_rfl) rfl rfl Try.underlying31 rfl rfl (by kernel_rfl) (fun h => by cases h)
def ti32 : TI := { size := 2, bytes := 32, agg := true, k := .st [(0, 3), (1, 31)], zero := [.t (.int .i64 0), .nil] }
theorem ti32_ok : TIok Try.prog 32 ti32 := TIok.mk_ (z := .agg #[.int .i64 0, .slice none 0 0]) (by kernel_rfl) rfl rfl Try.underlying32 rfl ⟨_, rfl, rfl, fieldsOk_of (by kernel_rfl)⟩ (by kernel_rfl) (fun h => by cases h)
def ti33 : TI := { size := 2, bytes := 32, agg := true, k := .st [(0, 3), (1, 31)], zero := [.t (.int .i64 0), .nil] }
theorem ti33_ok : TIok Try.prog 33 ti33 := TIok.mk_ (z := .agg #[.int .i64 0, .slice none 0 0]) (by kernel_rfl) rfl rfl Try.underlying33 rfl ⟨_, rfl, rfl, fieldsOk_of (by kernel_rfl)⟩ (by kernel_rfl) (fun h => by cases h)
def ti40 : TI := { size := 1, bytes := 24, agg := false, k := .sl 5, zero := [.nil] }
theorem ti40_ok : TIok Try.prog 40 ti40 := TIok.mk_ (z := .slice none 0 0) (by kernel_rfl) rfl rfl Try.underlying40 rfl rfl (by kernel_rfl) (fun h => by cases h)
def ti43 : TI := { size := 8, bytes := 96, agg := true, k := .st [(0, 3), (1, 3), (2, 3), (3, 3), (4, 26), (5, 3), (6, 26), (7, 3)], zero := [.t (.int .i64 0), .t (.int .i64 0), .t (.int .i64 0), .t (.int .i64 0), .nil, .t (.int .i64 0), .nil, .t (.int .i64 0)] }
theorem ti43_ok : TIok Try.prog 43 ti43 := TIok.mk_ (z := .agg #[.int .i64 0, .int .i64 0, .int .i64 0, .int .i64 0, .slice none 0 0, .int .i64 0, .slice none 0 0, .int .i64 0]) (by kernel_rfl) rfl rfl Try.underlying43 rfl ⟨_, rfl, rfl, fieldsOk_of (by kernel_rfl)⟩ (by kernel_rfl) (fun h => by cases h)
def ti44 : TI := { size := 8, bytes := 96, agg := true, k := .st [(0, 3), (1, 3), (2, 3), (3, 3), (4, 26), (5, 3), (6, 26), (7, 3)], zero := [.t (.int .i64 0), .t (.int .i64 0), .t (.int .i64 0), .t (.int .i64 0), .nil, .t (.int .i64 0), .nil, .t (.int .i64 0)] }
theorem ti44_ok : TIok Try.prog 44 ti44 := TIok.mk_ (z := .agg #[.int .i64 0, .int .i64 0, .int .i64 0, .int .i64 0, .slice none 0 0, .int .i64 0, .slice none 0 0, .int .i64 0]) (by kernel_rfl) rfl rfl Try.underlying44 rfl ⟨_, rfl, rfl, fieldsOk_of (by kernel_rfl)⟩ (by kernel_rfl) (fun h => by cases h)
def ti60 : TI := { size := 1, bytes := 24, agg := false, k := .sl 3, zero := [.nil] }
theorem ti60_ok : TIok Try.prog 60 ti60 := TIok.mk_ (z := .slice none 0 0) (by kernel_rfl) rfl rfl Try.underlying60 rfl rfl (by kernel_rfl) (fun h => by cases h)
def ti65 : TI := { size := 1, bytes := 24, agg := false, k := .sl 73, zero := [.nil] }
theorem ti65_ok : TIok Try.prog 65 ti65 := TIok.mk_ (z := .slice none 0 0) (by kernel_rfl) rfl rfl Try.underlying65 rfl rfl (by kernel_rfl) (fun h => by cases h)
def ti68 : TI := { size := 1, bytes := 24, agg := false, k := .sl 28, zero := [.nil] }
theorem ti68_ok : TIok Try.prog 68 ti68 := TIok.mk_ (z := .slice none 0 0) (by kernel_rfl) rfl rfl Try.underlying68 rfl rfl (by kernel_rfl) (fun h => by cases h)
def ti73 : TI := { size := 1, bytes := 24, agg := true, k := .st [(0, 26)], zero := [.nil] }
theorem ti73_ok : TIok Try.prog 73 ti73 := TIok.mk_ (z := .agg #[.slice none 0 0]) (by kernel_rfl) rfl rfl Try.underlying73 rfl ⟨_, rfl, rfl, fieldsOk_of (by kernel_rfl)⟩ (by kernel_rfl) (fun h => by cases h)
def ti77 : TI := { size := 8, bytes := 96, agg := true, k := .st [(0, 3), (1, 3), (2, 3), (3, 3), (4, 26), (5, 3), (6, 26), (7, 3)], zero := [.t (.int .i64 0), .t (.int .i64 0), .t (.int .i64 0), .t (.int .i64 0), .nil, .t (.int .i64 0), .nil, .t (.int .i64 0)] }
theorem ti77_ok : TIok Try.prog 77 ti77 := TIok.mk_ (z := .agg #[.int .i64 0, .int .i64 0, .int .i64 0, .int .i64 0, .slice none 0 0, .int .i64 0, .slice none 0 0, .int .i64 0]) (by kernel_rfl) rfl rfl Try.underlying77 rfl ⟨_, rfl, rfl, fieldsOk_of (by kernel_rfl)⟩ (by kernel_rfl) (fun h => by cases h)
def ti78 : TI := { size := 16, bytes := 192, agg := true, k := .st [(0, 77), (8, 77)], zero := [.t (.int .i64 0), .t (.int .i64 0), .t (.int .i64 0), .t (.int .i64 0), .nil, .t (.int .i64 0), .nil, .t (.int .i64 0), .t (.int .i64 0), .t (.int .i64 0), .t (.int .i64 0), .t (.int .i64 0), .nil, .t (.int .i64 0), .nil, .t (.int .i64 0)] }
theorem ti78_ok : TIok Try.prog 78 ti78 := TIok.mk_ (z := .agg #[.int .i64 0, .int .i64 0, .int .i64 0, .int .i64 0, .slice none 0 0, .int .i64 0, .slice none 0 0, .int .i64 0, .int .i64 0, .int .i64 0, .int .i64 0, .int .i64 0, .slice none 0 0, .int .i64 0, .slice none 0 0, .int .i64 0]) (by kernel_rfl) rfl rfl Try.underlying78 rfl ⟨_, rfl, rfl, fieldsOk_of (by kernel_rfl)⟩ (by kernel_rfl) (fun h => by cases h)
def ti79 : TI := { size := 16, bytes := 192, agg := true, k := .st [(0, 77), (8, 77)], zero := [.t (.int .i64 0), .t (.int .i64 0), .t (.int .i64 0), .t (.int .i64 0), .nil, .t (.int .i64 0), .nil, .t (.int .i64 0), .t (.int .i64 0), .t (.int .i64 0), .t (.int .i64 0), .t (.int .i64 0), .nil, .t (.int .i64 0), .nil, .t (.int .i64 0)] }
theorem ti79_ok : TIok Try.prog 79 ti79 := TIok.mk_ (z := .agg #[.int .i64 0, .int .i64 0, .int .i64 0, .int .i64 0, .slice none 0 0, .int .i64 0, .slice none 0 0, .int .i64 0, .int .i64 0, .int .i64 0, .int .i64 0, .int .i64 0, .slice none 0 0, .int .i64 0, .slice none 0 0, .int .i64 0]) (by kernel_rfl) rfl rfl Try.underlying79 rfl ⟨_, rfl, rfl, fieldsOk_of (by kernel_rfl)⟩ (by kernel_rfl) (fun h => by cases h)
def ti81 : TI := { size := 16, bytes := 192, agg := true, k := .st [(0, 44), (8, 44)], zero := [.t (.int .i64 0), .t (.int .i64 0), .t (.int .i64 0), .t (.int .i64 0), .nil, .t (.int .i64 0), .nil, .t (.int .i64 0), .t (.int .i64 0), .t (.int .i64 0), .t (.int .i64 0), .t (.int .i64 0), .nil, .t (.int .i64 0), .nil, .t (.int .i64 0)] }
theorem ti81_ok : TIok Try.prog 81 ti81 := TIok.mk_ (z := .agg #[.int .i64 0, .int .i64 0, .int .i64 0, .int .i64 0, .slice none 0 0, .int .i64 0, .slice none 0 0, .int .i64 0, .int .i64 0, .int .i64 0, .int .i64 0, .int .i64 0, .slice none 0 0, .int .i64 0, .slice none 0 0, .int .i64 0]) (by kernel_rfl) rfl rfl Try.underlying81 rfl ⟨_, rfl, rfl, fieldsOk_of (by kernel_rfl)⟩ (by kernel_rfl) (fun h => by cases h)
def ti82 : TI := { size := 16, bytes := 192, agg := true, k := .st [(0, 44), (8, 44)], zero := [.t (.int .i64 0), .t (.int .i64 0), .t (.int .i64 0), .t (.int .i64 0), .nil, .t (.int .i64 0), .nil, .t (.int .i64 0), .t (.int .i64 0), .t (.int .i64 0), .t (.int .i64 0), .t (.int .i64 0), .nil, .t (.int .i64 0), .nil, .t (.int .i64 0)] }
theorem ti82_ok : TIok Try.prog 82 ti82 := TIok.mk_ (z := .agg #[.int .i64 0, .int .i64 0, .int .i64 0, .int .i64 0, .slice none 0 0, .int .i64 0, .slice none 0 0, .int .i64 0, .int .i64 0, .int .i64 0, .int .i64 0, .int .i64 0, .slice none 0 0, .int .i64 0, .slice none 0 0, .int .i64 0]) (by kernel_rfl) rfl rfl Try.underlying82 rfl ⟨_, rfl, rfl, fieldsOk_of (by kernel_rfl)⟩ (by kernel_rfl) (fun h => by cases h)
def ti97 : TI := { size := 1, bytes := 24, agg := false, k := .sl 148, zero := [.nil] }
theorem ti97_ok : TIok Try.prog 97 ti97 := TIok.mk_ (z := .slice none 0 0) (by kernel_rfl) rfl rfl Try.underlying97 rfl rfl (by kernel_rfl) (fun h => by cases h)
def ti100 : TI := { size := 1, bytes := 24, agg := false, k := .sl 152, zero := [.nil] }
theorem ti100_ok : TIok Try.prog 100 ti100 := TIok.mk_ (z := .slice none 0 0) (by kernel_rfl) rfl rfl Try.underlying100 rfl rfl (by kernel_rfl) (fun h => by cases h)
def ti109 : TI := { size := 2, bytes := 32, agg := true, k := .st [(0, 3), (1, 28)], zero := [.t (.int .i64 0), .nil] }
theorem ti109_ok : TIok Try.prog 109 ti109 := TIok.mk_ (z := .agg #[.int .i64 0, .slice none 0 0]) (by kernel_rfl) rfl rfl Try.underlying109 rfl ⟨_, rfl, rfl, fieldsOk_of (by kernel_rfl)⟩ (by kernel_rfl) (fun h => by cases h)
def ti110 : TI := { size := 2, bytes := 32, agg := true, k := .st [(0, 3), (1, 28)], zero := [.t (.int .i64 0), .nil] }
theorem ti110_ok : TIok Try.prog 110 ti110 := TIok.mk_ (z := .agg #[.int .i64 0, .slice none 0 0]) (by kernel_rfl) rfl rfl Try.underlying110 rfl ⟨_, rfl, rfl, fieldsOk_of (by kernel_rfl)⟩ (by kernel_rfl) (fun h => by cases h)
def ti125 : TI := { size := 2, bytes := 32, agg := true, k := .st [(0, 3), (1, 40)], zero := [.t (.int .i64 0), .nil] }
theorem ti125_ok : TIok Try.prog 125 ti125 := TIok.mk_ (z := .agg #[.int .i64 0, .slice none 0 0]) (by kernel_rfl) rfl rfl Try.underlying125 rfl ⟨_, rfl, rfl, fieldsOk_of (by kernel_rfl)⟩ (by kernel_rfl) (fun h => by cases h)
def ti126 : TI := { size := 2, bytes := 32, agg := true, k := .st [(0, 3), (1, 40)], zero := [.t (.int .i64 0), .nil] }
theorem ti126_ok : TIok Try.prog 126 ti126 := TIok.mk_ (z := .agg #[.int .i64 0, .slice none 0 0]) (by kernel_rfl) rfl rfl Try.underlying126 rfl ⟨_, rfl, rfl, fieldsOk_of (by kernel_rfl)⟩ (by kernel_rfl) (fun h => by cases h)
def ti146 : TI := { size := 1, bytes := 24, agg := false, k := .sl 195, zero := [.nil] }
theorem ti146_ok : TIok Try.prog 146 ti146 := TIok.mk_ (z := .slice none 0 0) (by kernel_rfl) rfl rfl Try.underlying146 rfl rfl (by kernel_rfl) (fun h => by cases h)
def ti147 : TI := { size := 5, bytes := 56, agg := true, k := .st [(0, 3), (1, 3), (2, 3), (3, 146), (4, 3)], zero := [.t (.int .i64 0), .t (.int .i64 0), .t (.int .i64 0), .nil, .t (.int .i64 0)] }
theorem ti147_ok : TIok Try.prog 147 ti147 := TIok.mk_ (z := .agg #[.int .i64 0, .int .i64 0, .int .i64 0, .slice none 0 0, .int .i64 0]) (by kernel_rfl) rfl rfl Try.underlying147 rfl ⟨_, rfl, rfl, fieldsOk_of (by kernel_rfl)⟩ (by kernel_rfl) (fun h => by cases h)
def ti148 : TI := { size := 5, bytes := 56, agg := true, k := .st [(0, 3), (1, 3), (2, 3), (3, 146), (4, 3)], zero := [.t (.int .i64 0), .t (.int .i64 0), .t (.int .i64 0), .nil, .t (.int .i64 0)] }
theorem ti148_ok : TIok Try.prog 148 ti148 := TIok.mk_ (z := .agg #[.int .i64 0, .int .i64 0, .int .i64 0, .slice none 0 0, .int .i64 0]) (by kernel_rfl) rfl rfl Try.underlying148 rfl ⟨_, rfl, rfl, fieldsOk_of (by kernel_rfl)⟩ (by kernel_rfl) (fun h => by cases h)
def ti150 : TI := { size := 1, bytes := 24, agg := false, k := .sl 185, zero := [.nil] }
theorem ti150_ok : TIok Try.prog 150 ti150 := TIok.mk_ (z := .slice none 0 0) (by kernel_rfl) rfl rfl Try.underlying150 rfl rfl (by kernel_rfl) (fun h => by cases h)
def ti151 : TI := { size := 5, bytes := 56, agg := true, k := .st [(0, 3), (1, 3), (2, 3), (3, 150), (4, 3)], zero := [.t (.int .i64 0), .t (.int .i64 0), .t (.int .i64 0), .nil, .t (.int .i64 0)] }
theorem ti151_ok : TIok Try.prog 151 ti151 := TIok.mk_ (z := .agg #[.int .i64 0, .int .i64 0, .int .i64 0, .slice none 0 0, .int .i64 0]) (by kernel_rfl) rfl rfl Try.underlying151 rfl ⟨_, rfl, rfl, fieldsOk_of (by kernel_rfl)⟩ (by kernel_rfl) (fun h => by cases h)
def ti152 : TI := { size := 5, bytes := 56, agg := true, k := .st [(0, 3), (1, 3), (2, 3), (3, 150), (4, 3)], zero := [.t (.int .i64 0), .t (.int .i64 0), .t (.int .i64 0), .nil, .t (.int .i64 0)] }
theorem ti152_ok : TIok Try.prog 152 ti152 := TIok.mk_ (z := .agg #[.int .i64 0, .int .i64 0, .int .i64 0, .slice none 0 0, .int .i64 0]) (by kernel_rfl) rfl rfl Try.underlying152 rfl ⟨_, rfl, rfl, fieldsOk_of (by kernel_rfl)⟩ (by kernel_rfl) (fun h => by cases h)
def ti157 : TI := { size := 2, bytes := 32, agg := true, k := .st [(0, 3), (1, 73)], zero := [.t (.int .i64 0), .nil] }
theorem ti157_ok : TIok Try.prog 157 ti157 := TIok.mk_ (z := .agg #[.int .i64 0, .slice none 0 0]) (by kernel_rfl) rfl rfl Try.underlying157 rfl ⟨_, rfl, rfl, fieldsOk_of (by kernel_rfl)⟩ (by kernel_rfl) (fun h => by cases h)
def ti158 : TI := { size := 2, bytes := 32, agg := true, k := .st [(0, 3), (1, 73)], zero := [.t (.int .i64 0), .nil] }
theorem ti158_ok : TIok Try.prog 158 ti158 := TIok.mk_ (z := .agg #[.int .i64 0, .slice none 0 0]) (by kernel_rfl) rfl rfl Try.underlying158 rfl ⟨_, rfl, rfl, fieldsOk_of (by kernel_rfl)⟩ (by kernel_rfl) (fun h => by cases h)
def ti170 : TI := { size := 3, bytes := 40, agg := true, k := .st [(0, 40), (1, 3), (2, 3)], zero := [.nil, .t (.int .i64 0), .t (.int .i64 0)] }
theorem ti170_ok : TIok Try.prog 170 ti170 := TIok.mk_ (z := .agg #[.slice none 0 0, .int .i64 0, .int .i64 0]) (by kernel_rfl) rfl rfl Try.underlying170 rfl ⟨_, rfl, rfl, fieldsOk_of (by kernel_rfl)⟩ (by kernel_rfl) (fun h => by cases h)
def ti171 : TI := { size := 3, bytes := 40, agg := true, k := .st [(0, 40), (1, 3), (2, 3)], zero := [.nil, .t (.int .i64 0), .t (.int .i64 0)] }
theorem ti171_ok : TIok Try.prog 171 ti171 := TIok.mk_ (z := .agg #[.slice none 0 0, .int .i64 0, .int .i64 0]) (by kernel_rfl) rfl rfl Try.underlying171 rfl ⟨_, rfl, rfl, fieldsOk_of (by kernel_rfl)⟩ (by kernel_rfl) (fun h => by cases h)
def ti184 : TI := { size := 2, bytes := 32, agg := true, k := .st [(0, 3), (1, 28)], zero := [.t (.int .i64 0), .nil] }
theorem ti184_ok : TIok Try.prog 184 ti184 := TIok.mk_ (z := .agg #[.int .i64 0, .slice none 0 0]) (by kernel_rfl) rfl rfl Try.underlying184 rfl ⟨_, rfl, rfl, fieldsOk_of (by kernel_rfl)⟩ (by kernel_rfl) (fun h => by cases h)
def ti185 : TI := { size := 2, bytes := 32, agg := true, k := .st [(0, 3), (1, 28)], zero := [.t (.int .i64 0), .nil] }
theorem ti185_ok : TIok Try.prog 185 ti185 := TIok.mk_ (z := .agg #[.int .i64 0, .slice none 0 0]) (by kernel_rfl) rfl rfl Try.underlying185 rfl ⟨_, rfl, rfl, fieldsOk_of (by kernel_rfl)⟩ (by kernel_rfl) (fun h => by cases h)
def ti186 : TI := { size := 1, bytes := 8, agg := false, k := .int .u64, zero := [.t (.int .u64 0)] }
theorem ti186_ok : TIok Try.prog 186 ti186 := TIok.mk_ (z := .int .u64 0) (by kernel_rfl) rfl rfl Try.underlying186 rfl rfl (by kernel_rfl) (fun h => by cases h)
def ti188 : TI := { size := 1, bytes := 24, agg := false, k := .sl 60, zero := [.nil] }
theorem ti188_ok : TIok Try.prog 188 ti188 := TIok.mk_ (z := .slice none 0 0) (by kernel_rfl) rfl rfl Try.underlying188 rfl rfl (by kernel_rfl) (fun h => by cases h)
def ti194 : TI := { size := 2, bytes := 32, agg := true, k := .st [(0, 3), (1, 73)], zero := [.t (.int .i64 0), .nil] }
theorem ti194_ok : TIok Try.prog 194 ti194 := TIok.mk_ (z := .agg #[.int .i64 0, .slice none 0 0]) (by kernel_rfl) rfl rfl Try.underlying194 rfl ⟨_, rfl, rfl, fieldsOk_of (by kernel_rfl)⟩ (by kernel_rfl) (fun h => by cases h)
def ti195 : TI := { size := 2, bytes := 32, agg := true, k := .st [(0, 3), (1, 73)], zero := [.t (.int .i64 0), .nil] }
theorem ti195_ok : TIok Try.prog 195 ti195 := TIok.mk_ (z := .agg #[.int .i64 0, .slice none 0 0]) (by kernel_rfl) rfl rfl Try.underlying195 rfl ⟨_, rfl, rfl, fieldsOk_of (by kernel_rfl)⟩ (by kernel_rfl) (fun h => by cases h)
def ti205 : TI := { size := 1, bytes := 4, agg := false, k := .int .u32, zero := [.t (.int .u32 0)] }
theorem ti205_ok : TIok Try.prog 205 ti205 := TIok.mk_ (z := .int .u32 0) (by kernel_rfl) rfl rfl Try.underlying205 rfl rfl (by kernel_rfl) (fun h => by cases h)
def tys : List (Nat × TI) := [(2, ti2), (3, ti3), (4, ti4), (5, ti5), (9, ti9), (12, ti12), (13, ti13), (21, ti21), (22, ti22), (23, ti23), (24, ti24), (26, ti26), (27, ti27), (28, ti28), (31, ti31), (32, ti32), (33, ti33), (40, ti40), (43, ti43), (44, ti44), (60, ti60), (65, ti65), (68, ti68), (73, ti73), (77, ti77), (78, ti78), (79, ti79), (81, ti81), (82, ti82), (97, ti97), (100, ti100), (109, ti109), (110, ti110), (125, ti125), (126, ti126), (146, ti146), (147, ti147), (148, ti148), (150, ti150), (151, ti151), (152, ti152), (157, ti157), (158, ti158), (170, ti170), (171, ti171), (184, ti184), (185, ti185), (186, ti186), (188, ti188), (194, ti194), (195, ti195), (205, ti205)]
theorem tys_ok : TOk Try.prog (get tys) :=
  tok_of (by
    intro p hp
    simp only [tys, List.mem_cons, List.not_mem_nil, or_false] at hp
    rcases hp with rfl | rfl | rfl | rfl | rfl | rfl | rfl | rfl | rfl | rfl | rfl | rfl | rfl | rfl | rfl | rfl | rfl | rfl | rfl | rfl | rfl | rfl | rfl | rfl | rfl | rfl | rfl | rfl | rfl | rfl | rfl | rfl | rfl | rfl | rfl | rfl | rfl | rfl | rfl | rfl | rfl | rfl | rfl | rfl | rfl | rfl | rfl | rfl | rfl | rfl | rfl | rfl
    · exact ti2_ok
    · exact ti3_ok
    · exact ti4_ok
    · exact ti5_ok
    · exact ti9_ok
    · exact ti12_ok
    · exact ti13_ok
    · exact ti21_ok
    · exact ti22_ok
    · exact ti23_ok
    · exact ti24_ok
    · exact ti26_ok
    · exact ti27_ok
    · exact ti28_ok
    · exact ti31_ok
    · exact ti32_ok
    · exact ti33_ok
    · exact ti40_ok
    · exact ti43_ok
    · exact ti44_ok
    · exact ti60_ok
    · exact ti65_ok
    · exact ti68_ok
    · exact ti73_ok
    · exact ti77_ok
    · exact ti78_ok
    · exact ti79_ok
    · exact ti81_ok
    · exact ti82_ok
    · exact ti97_ok
    · exact ti100_ok
    · exact ti109_ok
    · exact ti110_ok
    · exact ti125_ok
    · exact ti126_ok
    · exact ti146_ok
    · exact ti147_ok
    · exact ti148_ok
    · exact ti150_ok
    · exact ti151_ok
    · exact ti152_ok
    · exact ti157_ok
    · exact ti158_ok
    · exact ti170_ok
    · exact ti171_ok
    · exact ti184_ok
    · exact ti185_ok
    · exact ti186_ok
    · exact ti188_ok
    · exact ti194_ok
    · exact ti195_ok
    · exact ti205_ok)
/-- The contract of a function of this program, from the evaluation of its body. -/
theorem fn_of {f : FuncId} {fn : Func} {c : Code} (hf : Try.prog.funcs[f]? = some fn) (hb : fn.body = some c) (hn : (fn.name == "runtime.NumGoroutine") = false) {args : List V} {rs : List RV} (hlen : Nat.ble args.length fn.ntmps = true)
    (h : ev Try.prog (get tys) fn.ntmps c (retK (get tys) fn.results.toList rs) ⟨initEnv 0 args, [], 0⟩) : FnAt Try.prog f args rs :=
  fnAt_of tys_ok (by kernel_rfl) hf hb hn hlen h
/-- The same for one that writes in place. -/
theorem mut_of {f : FuncId} {fn : Func} {c : Code} (hf : Try.prog.funcs[f]? = some fn) (hb : fn.body = some c) (hn : (fn.name == "runtime.NumGoroutine") = false) {m m' : RV} {xs : List V} {y : T} (hlen : Nat.ble (xs.length + 1) fn.ntmps = true)
    (has : ∀ x ∈ xs, ∃ z, x = .one z ∧ isScal z = true) (hy : isScal y = true) (h : ev Try.prog (get tys) fn.ntmps c (retM (get tys) fn.results.toList m' y) (mSt m xs)) : MutAt Try.prog f m m' xs y :=
  mutAt_of tys_ok (by kernel_rfl) hf hb hn hlen has hy h
end Go.Proofs.Ytnfamcbeoihpiaa
