/-
  The table of this seat's types for the program logic, written by a program of ours off the translation; each entry is held against the program by the kernel.
  Conditions: none.
-/
import Derived.Test.YtcoipmjboiegoaaProg
import Derived.Test.YtcoipmjboiegoaaVmP
import Derived.Test.YtcoipmjboiegoaaVmAf
import Derived.Test.YtcoipmjboiegoaaVmAh
namespace Go.Proofs.Ytcoipmjboiegoaa
open Go.Vm Go.RowKit

def ti2 : TI := { size := 1, bytes := 8, agg := false, k := .int .i64, zero := [.t (.int .i64 0)] }
theorem ti2_ok : TIok Try.prog 2 ti2 := TIok.mk_ (z := .int .i64 0) (by kernel_rfl) rfl rfl Try.underlying2 rfl rfl (by kernel_rfl) (fun h => by cases h)
def ti3 : TI := { size := 1, bytes := 8, agg := false, k := .int .i64, zero := [.t (.int .i64 0)] }
theorem ti3_ok : TIok Try.prog 3 ti3 := TIok.mk_ (z := .int .i64 0) (by kernel_rfl) rfl rfl Try.underlying3 rfl rfl (by kernel_rfl) (fun h => by cases h)
def ti4 : TI := { size := 1, bytes := 1, agg := false, k := .bool, zero := [.t (.bool false)] }
theorem ti4_ok : TIok Try.prog 4 ti4 := TIok.mk_ (z := .bool false) (by kernel_rfl) rfl rfl Try.underlying4 rfl rfl (by kernel_rfl) (fun h => by cases h)
def ti5 : TI := { size := 1, bytes := 1, agg := false, k := .int .u8, zero := [.t (.int .u8 0)] }
theorem ti5_ok : TIok Try.prog 5 ti5 := TIok.mk_ (z := .int .u8 0) (by kernel_rfl) rfl rfl Try.underlying5 rfl rfl (by kernel_rfl) (fun h => by cases h)
def ti9 : TI := { size := 1, bytes := 16, agg := false, k := .str, zero := [.t (.str ByteArray.empty)] }
theorem ti9_ok : TIok Try.prog 9 ti9 := TIok.mk_ (z := .string ByteArray.empty) (by kernel_rfl) rfl rfl Try.underlying9 rfl rfl (by kernel_rfl) (fun h => by cases h)
def ti12 : TI := { size := 1, bytes := 8, agg := false, k := .int .u64, zero := [.t (.int .u64 0)] }
theorem ti12_ok : TIok Try.prog 12 ti12 := TIok.mk_ (z := .int .u64 0) (by kernel_rfl) rfl rfl Try.underlying12 rfl rfl (by kernel_rfl) (fun h => by cases h)
def ti13 : TI := { size := 2, bytes := 24, agg := true, k := .st [(0, 9), (1, 12)], zero := [.t (.str ByteArray.empty), .t (.int .u64 0)] }
theorem ti13_ok : TIok Try.prog 13 ti13 := TIok.mk_ (z := .agg #[.string ByteArray.empty, .int .u64 0]) (by kernel_rfl) rfl rfl Try.underlying13 rfl ⟨_, rfl, rfl, fieldsOk_of (by kernel_rfl)⟩ (by kernel_rfl) (fun h => by cases h)
def ti21 : TI := { size := 1, bytes := 4, agg := false, k := .int .i32, zero := [.t (.int .i32 0)] }
theorem ti21_ok : TIok Try.prog 21 ti21 := TIok.mk_ (z := .int .i32 0) (by kernel_rfl) rfl rfl Try.underlying21 rfl rfl (by kernel_rfl) (fun h => by cases h)
def ti22 : TI := { size := 1, bytes := 24, agg := false, k := .sl 5, zero := [.nil] }
theorem ti22_ok : TIok Try.prog 22 ti22 := TIok.mk_ (z := .slice none 0 0) (by kernel_rfl) rfl rfl Try.underlying22 rfl rfl (by kernel_rfl) (fun h => by cases h)
def ti24 : TI := { size := 1, bytes := 24, agg := false, k := .sl 93, zero := [.nil] }
theorem ti24_ok : TIok Try.prog 24 ti24 := TIok.mk_ (z := .slice none 0 0) (by kernel_rfl) rfl rfl Try.underlying24 rfl rfl (by kernel_rfl) (fun h => by cases h)
def ti25 : TI := { size := 2, bytes := 32, agg := true, k := .st [(0, 3), (1, 24)], zero := [.t (.int .i64 0), .nil] }
theorem ti25_ok : TIok Try.prog 25 ti25 := TIok.mk_ (z := .agg #[.int .i64 0, .slice none 0 0]) (by kernel_rfl) rfl rfl Try.underlying25 rfl ⟨_, rfl, rfl, fieldsOk_of (by kernel_rfl)⟩ (by kernel_rfl) (fun h => by cases h)
def ti26 : TI := { size := 2, bytes := 32, agg := true, k := .st [(0, 3), (1, 24)], zero := [.t (.int .i64 0), .nil] }
theorem ti26_ok : TIok Try.prog 26 ti26 := TIok.mk_ (z := .agg #[.int .i64 0, .slice none 0 0]) (by kernel_rfl) rfl rfl Try.underlying26 rfl ⟨_, rfl, rfl, fieldsOk_of (by kernel_rfl)⟩ (by kernel_rfl) (fun h => by cases h)
def ti27 : TI := { size := 1, bytes := 24, agg := false, k := .sl 22, zero := [.nil] }
theorem ti27_ok : TIok Try.prog 27 ti27 := TIok.mk_ (z := .slice none 0 0) (by kernel_rfl) rfl rfl Try.underlying27 rfl rfl (by kernel_rfl) (fun h => by cases h)
def ti28 : TI := { size := 1, bytes := 24, agg := true, k := .st [(0, 27)], zero := [.nil] }
theorem ti28_ok : TIok Try.prog 28 ti28 := TIok.mk_ (z := .agg #[.slice none 0 0]) (by kernel_rfl) rfl rfl Try.underlying28 rfl ⟨_, rfl, rfl, fieldsOk_of (by kernel_rfl)⟩ (by kernel_rfl) (fun h => by cases h)
def ti29 : TI := { size := 1, bytes := 24, agg := true, k := .st [(0, 27)], zero := [.nil] }
theorem ti29_ok : TIok Try.prog 29 ti29 := TIok.mk_ (z := .agg #[.slice none 0 0]) (by kernel_rfl) rfl rfl Try.underlying29 rfl ⟨_, rfl, rfl, fieldsOk_of (by kernel_rfl)⟩ (by kernel_rfl) (fun h => by cases h)
def ti37 : TI := { size := 1, bytes := 24, agg := false, k := .sl 3, zero := [.nil] }
theorem ti37_ok : TIok Try.prog 37 ti37 := TIok.mk_ (z := .slice none 0 0) (by kernel_rfl) rfl rfl Try.underlying37 rfl rfl (by kernel_rfl) (fun h => by cases h)
def ti43 : TI := { size := 1, bytes := 24, agg := false, k := .sl 100, zero := [.nil] }
theorem ti43_ok : TIok Try.prog 43 ti43 := TIok.mk_ (z := .slice none 0 0) (by kernel_rfl) rfl rfl Try.underlying43 rfl rfl (by kernel_rfl) (fun h => by cases h)
def ti45 : TI := { size := 1, bytes := 24, agg := false, k := .sl 29, zero := [.nil] }
theorem ti45_ok : TIok Try.prog 45 ti45 := TIok.mk_ (z := .slice none 0 0) (by kernel_rfl) rfl rfl Try.underlying45 rfl rfl (by kernel_rfl) (fun h => by cases h)
def ti47 : TI := { size := 1, bytes := 24, agg := false, k := .sl 104, zero := [.nil] }
theorem ti47_ok : TIok Try.prog 47 ti47 := TIok.mk_ (z := .slice none 0 0) (by kernel_rfl) rfl rfl Try.underlying47 rfl rfl (by kernel_rfl) (fun h => by cases h)
def ti54 : TI := { size := 8, bytes := 96, agg := true, k := .st [(0, 3), (1, 3), (2, 3), (3, 3), (4, 27), (5, 3), (6, 27), (7, 3)], zero := [.t (.int .i64 0), .t (.int .i64 0), .t (.int .i64 0), .t (.int .i64 0), .nil, .t (.int .i64 0), .nil, .t (.int .i64 0)] }
theorem ti54_ok : TIok Try.prog 54 ti54 := TIok.mk_ (z := .agg #[.int .i64 0, .int .i64 0, .int .i64 0, .int .i64 0, .slice none 0 0, .int .i64 0, .slice none 0 0, .int .i64 0]) (by kernel_rfl) rfl rfl Try.underlying54 rfl ⟨_, rfl, rfl, fieldsOk_of (by kernel_rfl)⟩ (by kernel_rfl) (fun h => by cases h)
def ti55 : TI := { size := 8, bytes := 96, agg := true, k := .st [(0, 3), (1, 3), (2, 3), (3, 3), (4, 27), (5, 3), (6, 27), (7, 3)], zero := [.t (.int .i64 0), .t (.int .i64 0), .t (.int .i64 0), .t (.int .i64 0), .nil, .t (.int .i64 0), .nil, .t (.int .i64 0)] }
theorem ti55_ok : TIok Try.prog 55 ti55 := TIok.mk_ (z := .agg #[.int .i64 0, .int .i64 0, .int .i64 0, .int .i64 0, .slice none 0 0, .int .i64 0, .slice none 0 0, .int .i64 0]) (by kernel_rfl) rfl rfl Try.underlying55 rfl ⟨_, rfl, rfl, fieldsOk_of (by kernel_rfl)⟩ (by kernel_rfl) (fun h => by cases h)
def ti56 : TI := { size := 16, bytes := 192, agg := true, k := .st [(0, 55), (8, 55)], zero := [.t (.int .i64 0), .t (.int .i64 0), .t (.int .i64 0), .t (.int .i64 0), .nil, .t (.int .i64 0), .nil, .t (.int .i64 0), .t (.int .i64 0), .t (.int .i64 0), .t (.int .i64 0), .t (.int .i64 0), .nil, .t (.int .i64 0), .nil, .t (.int .i64 0)] }
theorem ti56_ok : TIok Try.prog 56 ti56 := TIok.mk_ (z := .agg #[.int .i64 0, .int .i64 0, .int .i64 0, .int .i64 0, .slice none 0 0, .int .i64 0, .slice none 0 0, .int .i64 0, .int .i64 0, .int .i64 0, .int .i64 0, .int .i64 0, .slice none 0 0, .int .i64 0, .slice none 0 0, .int .i64 0]) (by kernel_rfl) rfl rfl Try.underlying56 rfl ⟨_, rfl, rfl, fieldsOk_of (by kernel_rfl)⟩ (by kernel_rfl) (fun h => by cases h)
def ti57 : TI := { size := 16, bytes := 192, agg := true, k := .st [(0, 55), (8, 55)], zero := [.t (.int .i64 0), .t (.int .i64 0), .t (.int .i64 0), .t (.int .i64 0), .nil, .t (.int .i64 0), .nil, .t (.int .i64 0), .t (.int .i64 0), .t (.int .i64 0), .t (.int .i64 0), .t (.int .i64 0), .nil, .t (.int .i64 0), .nil, .t (.int .i64 0)] }
theorem ti57_ok : TIok Try.prog 57 ti57 := TIok.mk_ (z := .agg #[.int .i64 0, .int .i64 0, .int .i64 0, .int .i64 0, .slice none 0 0, .int .i64 0, .slice none 0 0, .int .i64 0, .int .i64 0, .int .i64 0, .int .i64 0, .int .i64 0, .slice none 0 0, .int .i64 0, .slice none 0 0, .int .i64 0]) (by kernel_rfl) rfl rfl Try.underlying57 rfl ⟨_, rfl, rfl, fieldsOk_of (by kernel_rfl)⟩ (by kernel_rfl) (fun h => by cases h)
def ti67 : TI := { size := 1, bytes := 24, agg := true, k := .st [(0, 27)], zero := [.nil] }
theorem ti67_ok : TIok Try.prog 67 ti67 := TIok.mk_ (z := .agg #[.slice none 0 0]) (by kernel_rfl) rfl rfl Try.underlying67 rfl ⟨_, rfl, rfl, fieldsOk_of (by kernel_rfl)⟩ (by kernel_rfl) (fun h => by cases h)
def ti68 : TI := { size := 1, bytes := 24, agg := false, k := .sl 128, zero := [.nil] }
theorem ti68_ok : TIok Try.prog 68 ti68 := TIok.mk_ (z := .slice none 0 0) (by kernel_rfl) rfl rfl Try.underlying68 rfl rfl (by kernel_rfl) (fun h => by cases h)
def ti73 : TI := { size := 1, bytes := 24, agg := false, k := .sl 129, zero := [.nil] }
theorem ti73_ok : TIok Try.prog 73 ti73 := TIok.mk_ (z := .slice none 0 0) (by kernel_rfl) rfl rfl Try.underlying73 rfl rfl (by kernel_rfl) (fun h => by cases h)
def ti92 : TI := { size := 2, bytes := 32, agg := true, k := .st [(0, 3), (1, 29)], zero := [.t (.int .i64 0), .nil] }
theorem ti92_ok : TIok Try.prog 92 ti92 := TIok.mk_ (z := .agg #[.int .i64 0, .slice none 0 0]) (by kernel_rfl) rfl rfl Try.underlying92 rfl ⟨_, rfl, rfl, fieldsOk_of (by kernel_rfl)⟩ (by kernel_rfl) (fun h => by cases h)
def ti93 : TI := { size := 2, bytes := 32, agg := true, k := .st [(0, 3), (1, 29)], zero := [.t (.int .i64 0), .nil] }
theorem ti93_ok : TIok Try.prog 93 ti93 := TIok.mk_ (z := .agg #[.int .i64 0, .slice none 0 0]) (by kernel_rfl) rfl rfl Try.underlying93 rfl ⟨_, rfl, rfl, fieldsOk_of (by kernel_rfl)⟩ (by kernel_rfl) (fun h => by cases h)
def ti98 : TI := { size := 1, bytes := 24, agg := false, k := .sl 176, zero := [.nil] }
theorem ti98_ok : TIok Try.prog 98 ti98 := TIok.mk_ (z := .slice none 0 0) (by kernel_rfl) rfl rfl Try.underlying98 rfl rfl (by kernel_rfl) (fun h => by cases h)
def ti99 : TI := { size := 5, bytes := 56, agg := true, k := .st [(0, 3), (1, 3), (2, 3), (3, 98), (4, 3)], zero := [.t (.int .i64 0), .t (.int .i64 0), .t (.int .i64 0), .nil, .t (.int .i64 0)] }
theorem ti99_ok : TIok Try.prog 99 ti99 := TIok.mk_ (z := .agg #[.int .i64 0, .int .i64 0, .int .i64 0, .slice none 0 0, .int .i64 0]) (by kernel_rfl) rfl rfl Try.underlying99 rfl ⟨_, rfl, rfl, fieldsOk_of (by kernel_rfl)⟩ (by kernel_rfl) (fun h => by cases h)
def ti100 : TI := { size := 5, bytes := 56, agg := true, k := .st [(0, 3), (1, 3), (2, 3), (3, 98), (4, 3)], zero := [.t (.int .i64 0), .t (.int .i64 0), .t (.int .i64 0), .nil, .t (.int .i64 0)] }
theorem ti100_ok : TIok Try.prog 100 ti100 := TIok.mk_ (z := .agg #[.int .i64 0, .int .i64 0, .int .i64 0, .slice none 0 0, .int .i64 0]) (by kernel_rfl) rfl rfl Try.underlying100 rfl ⟨_, rfl, rfl, fieldsOk_of (by kernel_rfl)⟩ (by kernel_rfl) (fun h => by cases h)
def ti102 : TI := { size := 1, bytes := 24, agg := false, k := .sl 150, zero := [.nil] }
theorem ti102_ok : TIok Try.prog 102 ti102 := TIok.mk_ (z := .slice none 0 0) (by kernel_rfl) rfl rfl Try.underlying102 rfl rfl (by kernel_rfl) (fun h => by cases h)
def ti103 : TI := { size := 5, bytes := 56, agg := true, k := .st [(0, 3), (1, 3), (2, 3), (3, 102), (4, 3)], zero := [.t (.int .i64 0), .t (.int .i64 0), .t (.int .i64 0), .nil, .t (.int .i64 0)] }
theorem ti103_ok : TIok Try.prog 103 ti103 := TIok.mk_ (z := .agg #[.int .i64 0, .int .i64 0, .int .i64 0, .slice none 0 0, .int .i64 0]) (by kernel_rfl) rfl rfl Try.underlying103 rfl ⟨_, rfl, rfl, fieldsOk_of (by kernel_rfl)⟩ (by kernel_rfl) (fun h => by cases h)
def ti104 : TI := { size := 5, bytes := 56, agg := true, k := .st [(0, 3), (1, 3), (2, 3), (3, 102), (4, 3)], zero := [.t (.int .i64 0), .t (.int .i64 0), .t (.int .i64 0), .nil, .t (.int .i64 0)] }
theorem ti104_ok : TIok Try.prog 104 ti104 := TIok.mk_ (z := .agg #[.int .i64 0, .int .i64 0, .int .i64 0, .slice none 0 0, .int .i64 0]) (by kernel_rfl) rfl rfl Try.underlying104 rfl ⟨_, rfl, rfl, fieldsOk_of (by kernel_rfl)⟩ (by kernel_rfl) (fun h => by cases h)
def ti117 : TI := { size := 2, bytes := 32, agg := true, k := .st [(0, 3), (1, 22)], zero := [.t (.int .i64 0), .nil] }
theorem ti117_ok : TIok Try.prog 117 ti117 := TIok.mk_ (z := .agg #[.int .i64 0, .slice none 0 0]) (by kernel_rfl) rfl rfl Try.underlying117 rfl ⟨_, rfl, rfl, fieldsOk_of (by kernel_rfl)⟩ (by kernel_rfl) (fun h => by cases h)
def ti118 : TI := { size := 2, bytes := 32, agg := true, k := .st [(0, 3), (1, 22)], zero := [.t (.int .i64 0), .nil] }
theorem ti118_ok : TIok Try.prog 118 ti118 := TIok.mk_ (z := .agg #[.int .i64 0, .slice none 0 0]) (by kernel_rfl) rfl rfl Try.underlying118 rfl ⟨_, rfl, rfl, fieldsOk_of (by kernel_rfl)⟩ (by kernel_rfl) (fun h => by cases h)
def ti127 : TI := { size := 5, bytes := 72, agg := true, k := .st [(0, 3), (1, 3), (2, 37), (3, 22), (4, 3)], zero := [.t (.int .i64 0), .t (.int .i64 0), .nil, .nil, .t (.int .i64 0)] }
theorem ti127_ok : TIok Try.prog 127 ti127 := TIok.mk_ (z := .agg #[.int .i64 0, .int .i64 0, .slice none 0 0, .slice none 0 0, .int .i64 0]) (by kernel_rfl) rfl rfl Try.underlying127 rfl ⟨_, rfl, rfl, fieldsOk_of (by kernel_rfl)⟩ (by kernel_rfl) (fun h => by cases h)
def ti128 : TI := { size := 5, bytes := 72, agg := true, k := .st [(0, 3), (1, 3), (2, 37), (3, 22), (4, 3)], zero := [.t (.int .i64 0), .t (.int .i64 0), .nil, .nil, .t (.int .i64 0)] }
theorem ti128_ok : TIok Try.prog 128 ti128 := TIok.mk_ (z := .agg #[.int .i64 0, .int .i64 0, .slice none 0 0, .slice none 0 0, .int .i64 0]) (by kernel_rfl) rfl rfl Try.underlying128 rfl ⟨_, rfl, rfl, fieldsOk_of (by kernel_rfl)⟩ (by kernel_rfl) (fun h => by cases h)
def ti129 : TI := { size := 5, bytes := 72, agg := true, k := .st [(0, 3), (1, 3), (2, 37), (3, 22), (4, 3)], zero := [.t (.int .i64 0), .t (.int .i64 0), .nil, .nil, .t (.int .i64 0)] }
theorem ti129_ok : TIok Try.prog 129 ti129 := TIok.mk_ (z := .agg #[.int .i64 0, .int .i64 0, .slice none 0 0, .slice none 0 0, .int .i64 0]) (by kernel_rfl) rfl rfl Try.underlying129 rfl ⟨_, rfl, rfl, fieldsOk_of (by kernel_rfl)⟩ (by kernel_rfl) (fun h => by cases h)
def ti137 : TI := { size := 3, bytes := 40, agg := true, k := .st [(0, 22), (1, 3), (2, 3)], zero := [.nil, .t (.int .i64 0), .t (.int .i64 0)] }
theorem ti137_ok : TIok Try.prog 137 ti137 := TIok.mk_ (z := .agg #[.slice none 0 0, .int .i64 0, .int .i64 0]) (by kernel_rfl) rfl rfl Try.underlying137 rfl ⟨_, rfl, rfl, fieldsOk_of (by kernel_rfl)⟩ (by kernel_rfl) (fun h => by cases h)
def ti138 : TI := { size := 3, bytes := 40, agg := true, k := .st [(0, 22), (1, 3), (2, 3)], zero := [.nil, .t (.int .i64 0), .t (.int .i64 0)] }
theorem ti138_ok : TIok Try.prog 138 ti138 := TIok.mk_ (z := .agg #[.slice none 0 0, .int .i64 0, .int .i64 0]) (by kernel_rfl) rfl rfl Try.underlying138 rfl ⟨_, rfl, rfl, fieldsOk_of (by kernel_rfl)⟩ (by kernel_rfl) (fun h => by cases h)
def ti149 : TI := { size := 2, bytes := 32, agg := true, k := .st [(0, 3), (1, 29)], zero := [.t (.int .i64 0), .nil] }
theorem ti149_ok : TIok Try.prog 149 ti149 := TIok.mk_ (z := .agg #[.int .i64 0, .slice none 0 0]) (by kernel_rfl) rfl rfl Try.underlying149 rfl ⟨_, rfl, rfl, fieldsOk_of (by kernel_rfl)⟩ (by kernel_rfl) (fun h => by cases h)
def ti150 : TI := { size := 2, bytes := 32, agg := true, k := .st [(0, 3), (1, 29)], zero := [.t (.int .i64 0), .nil] }
theorem ti150_ok : TIok Try.prog 150 ti150 := TIok.mk_ (z := .agg #[.int .i64 0, .slice none 0 0]) (by kernel_rfl) rfl rfl Try.underlying150 rfl ⟨_, rfl, rfl, fieldsOk_of (by kernel_rfl)⟩ (by kernel_rfl) (fun h => by cases h)
def ti159 : TI := { size := 1, bytes := 8, agg := false, k := .int .u64, zero := [.t (.int .u64 0)] }
theorem ti159_ok : TIok Try.prog 159 ti159 := TIok.mk_ (z := .int .u64 0) (by kernel_rfl) rfl rfl Try.underlying159 rfl rfl (by kernel_rfl) (fun h => by cases h)
def ti175 : TI := { size := 2, bytes := 32, agg := true, k := .st [(0, 3), (1, 67)], zero := [.t (.int .i64 0), .nil] }
theorem ti175_ok : TIok Try.prog 175 ti175 := TIok.mk_ (z := .agg #[.int .i64 0, .slice none 0 0]) (by kernel_rfl) rfl rfl Try.underlying175 rfl ⟨_, rfl, rfl, fieldsOk_of (by kernel_rfl)⟩ (by kernel_rfl) (fun h => by cases h)
def ti176 : TI := { size := 2, bytes := 32, agg := true, k := .st [(0, 3), (1, 67)], zero := [.t (.int .i64 0), .nil] }
theorem ti176_ok : TIok Try.prog 176 ti176 := TIok.mk_ (z := .agg #[.int .i64 0, .slice none 0 0]) (by kernel_rfl) rfl rfl Try.underlying176 rfl ⟨_, rfl, rfl, fieldsOk_of (by kernel_rfl)⟩ (by kernel_rfl) (fun h => by cases h)
def ti187 : TI := { size := 1, bytes := 8, agg := false, k := .int .i64, zero := [.t (.int .i64 0)] }
theorem ti187_ok : TIok Try.prog 187 ti187 := TIok.mk_ (z := .int .i64 0) (by kernel_rfl) rfl rfl Try.underlying187 rfl rfl (by kernel_rfl) (fun h => by cases h)
def ti196 : TI := { size := 1, bytes := 4, agg := false, k := .int .u32, zero := [.t (.int .u32 0)] }
theorem ti196_ok : TIok Try.prog 196 ti196 := TIok.mk_ (z := .int .u32 0) (by kernel_rfl) rfl rfl Try.underlying196 rfl rfl (by kernel_rfl) (fun h => by cases h)
def ti198 : TI := { size := 1, bytes := 8, agg := false, k := .int .u64, zero := [.t (.int .u64 0)] }
theorem ti198_ok : TIok Try.prog 198 ti198 := TIok.mk_ (z := .int .u64 0) (by kernel_rfl) rfl rfl Try.underlying198 rfl rfl (by kernel_rfl) (fun h => by cases h)
def ti202 : TI := { size := 1, bytes := 24, agg := false, k := .sl 37, zero := [.nil] }
theorem ti202_ok : TIok Try.prog 202 ti202 := TIok.mk_ (z := .slice none 0 0) (by kernel_rfl) rfl rfl Try.underlying202 rfl rfl (by kernel_rfl) (fun h => by cases h)
def ti204 : TI := { size := 1, bytes := 8, agg := false, k := .int .u64, zero := [.t (.int .u64 0)] }
theorem ti204_ok : TIok Try.prog 204 ti204 := TIok.mk_ (z := .int .u64 0) (by kernel_rfl) rfl rfl Try.underlying204 rfl rfl (by kernel_rfl) (fun h => by cases h)
def tys : List (Nat × TI) := [(2, ti2), (3, ti3), (4, ti4), (5, ti5), (9, ti9), (12, ti12), (13, ti13), (21, ti21), (22, ti22), (24, ti24), (25, ti25), (26, ti26), (27, ti27), (28, ti28), (29, ti29), (37, ti37), (43, ti43), (45, ti45), (47, ti47), (54, ti54), (55, ti55), (56, ti56), (57, ti57), (67, ti67), (68, ti68), (73, ti73), (92, ti92), (93, ti93), (98, ti98), (99, ti99), (100, ti100), (102, ti102), (103, ti103), (104, ti104), (117, ti117), (118, ti118), (127, ti127), (128, ti128), (129, ti129), (137, ti137), (138, ti138), (149, ti149), (150, ti150), (159, ti159), (175, ti175), (176, ti176), (187, ti187), (196, ti196), (198, ti198), (202, ti202), (204, ti204)]
theorem tys_ok : TOk Try.prog (get tys) :=
  tok_of (by
    intro p hp
    simp only [tys, List.mem_cons, List.not_mem_nil, or_false] at hp
    rcases hp with rfl | rfl | rfl | rfl | rfl | rfl | rfl | rfl | rfl | rfl | rfl | rfl | rfl | rfl | rfl | rfl | rfl | rfl | rfl | rfl | rfl | rfl | rfl | rfl | rfl | rfl | rfl | rfl | rfl | rfl | rfl | rfl | rfl | rfl | rfl | rfl | rfl | rfl | rfl | rfl | rfl | rfl | rfl | rfl | rfl | rfl | rfl | rfl | rfl | rfl | rfl
    · exact ti2_ok
    · exact ti3_ok
    · exact ti4_ok
    · exact ti5_ok
    · exact ti9_ok
    · exact ti12_ok
    · exact ti13_ok
    · exact ti21_ok
    · exact ti22_ok
    · exact ti24_ok
    · exact ti25_ok
    · exact ti26_ok
    · exact ti27_ok
    · exact ti28_ok
    · exact ti29_ok
    · exact ti37_ok
    · exact ti43_ok
    · exact ti45_ok
    · exact ti47_ok
    · exact ti54_ok
    · exact ti55_ok
    · exact ti56_ok
    · exact ti57_ok
    · exact ti67_ok
    · exact ti68_ok
    · exact ti73_ok
    · exact ti92_ok
    · exact ti93_ok
    · exact ti98_ok
    · exact ti99_ok
    · exact ti100_ok
    · exact ti102_ok
    · exact ti103_ok
    · exact ti104_ok
    · exact ti117_ok
    · exact ti118_ok
    · exact ti127_ok
    · exact ti128_ok
    · exact ti129_ok
    · exact ti137_ok
    · exact ti138_ok
    · exact ti149_ok
    · exact ti150_ok
    · exact ti159_ok
    · exact ti175_ok
    · exact ti176_ok
    · exact ti187_ok
    · exact ti196_ok
    · exact ti198_ok
    · exact ti202_ok
    · exact ti204_ok)
/-- The contract of a function of this program, from the evaluation of its body. -/
theorem fn_of {f : FuncId} {fn : Func} {c : Code} (hf : Try.prog.funcs[f]? = some fn) (hb : fn.body = some c) (hn : (fn.name == "runtime.NumGoroutine") = false) {args : List V} {rs : List RV} (hlen : Nat.ble args.length fn.ntmps = true)
    (h : ev Try.prog (get tys) fn.ntmps c (retK (get tys) fn.results.toList rs) ⟨initEnv 0 args, [], 0⟩) : FnAt Try.prog f args rs :=
  fnAt_of tys_ok (by kernel_rfl) hf hb hn hlen h
/-- The same for one that writes in place. -/
theorem mut_of {f : FuncId} {fn : Func} {c : Code} (hf : Try.prog.funcs[f]? = some fn) (hb : fn.body = some c) (hn : (fn.name == "runtime.NumGoroutine") = false) {m m' : RV} {xs : List V} {y : T} (hlen : Nat.ble (xs.length + 1) fn.ntmps = true)
    (has : ∀ x ∈ xs, ∃ z, x = .one z ∧ isScal z = true) (hy : isScal y = true) (h : ev Try.prog (get tys) fn.ntmps c (retM (get tys) fn.results.toList m' y) (mSt m xs)) : MutAt Try.prog f m m' xs y :=
  mutAt_of tys_ok (by kernel_rfl) hf hb hn hlen has hy h
/-- The same for one that is called with a pointer to a box. -/
theorem cur_of {f : FuncId} {fn : Func} {c : Code} (hf : Try.prog.funcs[f]? = some fn) (hb : fn.body = some c) (hn : (fn.name == "runtime.NumGoroutine") = false) {cs cs' : List T} {xs : List V} {rs : List RV} (hlen : Nat.ble (xs.length + 1) fn.ntmps = true)
    (h : ev Try.prog (get tys) fn.ntmps c (retC (get tys) fn.results.toList cs' rs) (cSt cs xs)) : CurAt Try.prog f cs cs' xs rs :=
  cur_of_ev tys_ok (by kernel_rfl) hf hb hn hlen h
/-- The same, where of the results a property alone is known. -/
theorem fnE_of {f : FuncId} {fn : Func} {c : Code} (hf : Try.prog.funcs[f]? = some fn) (hb : fn.body = some c) (hn : (fn.name == "runtime.NumGoroutine") = false) {args : List V} {X : Type} {rs : X → List RV} {Q : X → Prop} (hlen : Nat.ble args.length fn.ntmps = true)
    (h : ev Try.prog (get tys) fn.ntmps c (retKE (get tys) fn.results.toList rs Q) ⟨initEnv 0 args, [], 0⟩) : FnE Try.prog f args X rs Q :=
  fnE_of_ev tys_ok (by kernel_rfl) hf hb hn hlen h
theorem curE_of {f : FuncId} {fn : Func} {c : Code} (hf : Try.prog.funcs[f]? = some fn) (hb : fn.body = some c) (hn : (fn.name == "runtime.NumGoroutine") = false) {cs : List T} {xs : List V} {X : Type} {cs' : X → List T} {rs : X → List RV} {Q : X → Prop} (hlen : Nat.ble (xs.length + 1) fn.ntmps = true)
    (h : ev Try.prog (get tys) fn.ntmps c (retCE (get tys) fn.results.toList cs' rs Q) (cSt cs xs)) : CurE Try.prog f cs xs X cs' rs Q :=
  curE_of_ev tys_ok (by kernel_rfl) hf hb hn hlen h
/-- A drawn region by the evaluation of its operations in another order. -/
theorem reg_perm {nt id : Nat} {ops : Array Oper} {K : St → Prop} {σ : St} (π f : List Nat) (hp : permOK π f ops = true) (hd : drawOK (permO π f ops) = true)
    (h : evOps Try.prog (get tys) nt false (permO π f ops) (permO π f ops).toList K σ) : RegAt Try.prog nt (.region id ops true) K σ := regAt_perm tys_ok (by kernel_rfl) π f hp hd h
/-- A call that is walked in place. -/
theorem jat_ {f : FuncId} {fn : Func} {c : Code} (hf : Try.prog.funcs[f]? = some fn) (hb : fn.body = some c) (hn : (fn.name == "runtime.NumGoroutine") = false) {avs : List AV} {σ : St} {K : AV → St → Prop} (hlen : Nat.ble avs.length fn.ntmps = true) (hav : avs.all noPin = true)
    (h : ev Try.prog (get tys) fn.ntmps c (retJ (get tys) fn.ntmps fn.results.toList K) ⟨jEnv fn.ntmps avs σ.env, σ.objs, σ.next⟩) : JAt Try.prog f avs σ K :=
  jat_of tys_ok (by kernel_rfl) hf hb hn hlen hav h
end Go.Proofs.Ytcoipmjboiegoaa
