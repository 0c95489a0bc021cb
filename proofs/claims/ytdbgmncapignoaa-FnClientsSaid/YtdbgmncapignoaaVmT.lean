/-
  The table of this seat's types for the program logic, written by a program of ours off the translation; each entry is held against the program by the kernel.
  Conditions: none.
-/
import Derived.Test.YtdbgmncapignoaaProg
import Derived.Test.YtdbgmncapignoaaVmP
import Derived.Test.YtdbgmncapignoaaVmAf
import Derived.Test.YtdbgmncapignoaaVmAh
namespace Go.Proofs.Ytdbgmncapignoaa
open Go.Vm Go.RowKit

def ti2 : TI := { size := 1, bytes := 8, agg := false, k := .int .i64, zero := [.t (.int .i64 0)] }
theorem ti2_ok : TIok Try.prog 2 ti2 := TIok.mk_ (z := .int .i64 0) (by kernel_rfl) rfl rfl Try.underlying2 rfl rfl (by kernel_rfl) (fun h => by cases h)
def ti3 : TI := { size := 1, bytes := 8, agg := false, k := .int .i64, zero := [.t (.int .i64 0)] }
theorem ti3_ok : TIok Try.prog 3 ti3 := TIok.mk_ (z := .int .i64 0) (by kernel_rfl) rfl rfl Try.underlying3 rfl rfl (by kernel_rfl) (fun h => by cases h)
def ti4 : TI := { size := 1, bytes := 1, agg := false, k := .bool, zero := [.t (.bool false)] }
theorem ti4_ok : TIok Try.prog 4 ti4 := TIok.mk_ (z := .bool false) (by kernel_rfl) rfl rfl Try.underlying4 rfl rfl (by kernel_rfl) (fun h => by cases h)
def ti5 : TI := { size := 1, bytes := 1, agg := false, k := .int .u8, zero := [.t (.int .u8 0)] }
theorem ti5_ok : TIok Try.prog 5 ti5 := TIok.mk_ (z := .int .u8 0) (by kernel_rfl) rfl rfl Try.underlying5 rfl rfl (by kernel_rfl) (fun h => by cases h)
def ti9 : TI := { size := 1, bytes := 16, agg := false, k := .str, zero := [.t (.str ByteArray.empty)] }
theorem ti9_ok : TIok Try.prog 9 ti9 := TIok.mk_ (z := .string ByteArray.empty) (by kernel_rfl) rfl rfl Try.underlying9 rfl rfl (by kernel_rfl) (fun h => by cases h)
def ti12 : TI := { size := 1, bytes := 8, agg := false, k := .int .u64, zero := [.t (.int .u64 0)] }
theorem ti12_ok : TIok Try.prog 12 ti12 := TIok.mk_ (z := .int .u64 0) (by kernel_rfl) rfl rfl Try.underlying12 rfl rfl (by kernel_rfl) (fun h => by cases h)
def ti13 : TI := { size := 2, bytes := 24, agg := true, k := .st [(0, 9), (1, 12)], zero := [.t (.str ByteArray.empty), .t (.int .u64 0)] }
theorem ti13_ok : TIok Try.prog 13 ti13 := TIok.mk_ (z := .agg #[.string ByteArray.empty, .int .u64 0]) (by kernel_rfl) rfl rfl Try.underlying13 rfl ⟨_, rfl, rfl, fieldsOk_of (by kernel_rfl)⟩ (by kernel_rfl) (fun h => by cases h)
def ti21 : TI := { size := 1, bytes := 4, agg := false, k := .int .i32, zero := [.t (.int .i32 0)] }
theorem ti21_ok : TIok Try.prog 21 ti21 := TIok.mk_ (z := .int .i32 0) (by kernel_rfl) rfl rfl Try.underlying21 rfl rfl (by kernel_rfl) (fun h => by cases h)
def ti22 : TI := { size := 1, bytes := 24, agg := false, k := .sl 5, zero := [.nil] }
theorem ti22_ok : TIok Try.prog 22 ti22 := TIok.mk_ (z := .slice none 0 0) (by kernel_rfl) rfl rfl Try.underlying22 rfl rfl (by kernel_rfl) (fun h => by cases h)
def ti24 : TI := { size := 1, bytes := 24, agg := false, k := .sl 22, zero := [.nil] }
theorem ti24_ok : TIok Try.prog 24 ti24 := TIok.mk_ (z := .slice none 0 0) (by kernel_rfl) rfl rfl Try.underlying24 rfl rfl (by kernel_rfl) (fun h => by cases h)
def ti25 : TI := { size := 8, bytes := 96, agg := true, k := .st [(0, 3), (1, 3), (2, 3), (3, 3), (4, 24), (5, 3), (6, 24), (7, 3)], zero := [.t (.int .i64 0), .t (.int .i64 0), .t (.int .i64 0), .t (.int .i64 0), .nil, .t (.int .i64 0), .nil, .t (.int .i64 0)] }
theorem ti25_ok : TIok Try.prog 25 ti25 := TIok.mk_ (z := .agg #[.int .i64 0, .int .i64 0, .int .i64 0, .int .i64 0, .slice none 0 0, .int .i64 0, .slice none 0 0, .int .i64 0]) (by kernel_rfl) rfl rfl Try.underlying25 rfl ⟨_, rfl, rfl, fieldsOk_of (by kernel_rfl)⟩ (by kernel_rfl) (fun h => by cases h)
def ti26 : TI := { size := 8, bytes := 96, agg := true, k := .st [(0, 3), (1, 3), (2, 3), (3, 3), (4, 24), (5, 3), (6, 24), (7, 3)], zero := [.t (.int .i64 0), .t (.int .i64 0), .t (.int .i64 0), .t (.int .i64 0), .nil, .t (.int .i64 0), .nil, .t (.int .i64 0)] }
theorem ti26_ok : TIok Try.prog 26 ti26 := TIok.mk_ (z := .agg #[.int .i64 0, .int .i64 0, .int .i64 0, .int .i64 0, .slice none 0 0, .int .i64 0, .slice none 0 0, .int .i64 0]) (by kernel_rfl) rfl rfl Try.underlying26 rfl ⟨_, rfl, rfl, fieldsOk_of (by kernel_rfl)⟩ (by kernel_rfl) (fun h => by cases h)
def ti37 : TI := { size := 1, bytes := 24, agg := false, k := .sl 44, zero := [.nil] }
theorem ti37_ok : TIok Try.prog 37 ti37 := TIok.mk_ (z := .slice none 0 0) (by kernel_rfl) rfl rfl Try.underlying37 rfl rfl (by kernel_rfl) (fun h => by cases h)
def ti38 : TI := { size := 1, bytes := 24, agg := false, k := .sl 48, zero := [.nil] }
theorem ti38_ok : TIok Try.prog 38 ti38 := TIok.mk_ (z := .slice none 0 0) (by kernel_rfl) rfl rfl Try.underlying38 rfl rfl (by kernel_rfl) (fun h => by cases h)
def ti39 : TI := { size := 1, bytes := 24, agg := false, k := .sl 93, zero := [.nil] }
theorem ti39_ok : TIok Try.prog 39 ti39 := TIok.mk_ (z := .slice none 0 0) (by kernel_rfl) rfl rfl Try.underlying39 rfl rfl (by kernel_rfl) (fun h => by cases h)
def ti42 : TI := { size := 1, bytes := 24, agg := false, k := .sl 50, zero := [.nil] }
theorem ti42_ok : TIok Try.prog 42 ti42 := TIok.mk_ (z := .slice none 0 0) (by kernel_rfl) rfl rfl Try.underlying42 rfl rfl (by kernel_rfl) (fun h => by cases h)
def ti43 : TI := { size := 5, bytes := 56, agg := true, k := .st [(0, 3), (1, 3), (2, 3), (3, 42), (4, 3)], zero := [.t (.int .i64 0), .t (.int .i64 0), .t (.int .i64 0), .nil, .t (.int .i64 0)] }
theorem ti43_ok : TIok Try.prog 43 ti43 := TIok.mk_ (z := .agg #[.int .i64 0, .int .i64 0, .int .i64 0, .slice none 0 0, .int .i64 0]) (by kernel_rfl) rfl rfl Try.underlying43 rfl ⟨_, rfl, rfl, fieldsOk_of (by kernel_rfl)⟩ (by kernel_rfl) (fun h => by cases h)
def ti44 : TI := { size := 5, bytes := 56, agg := true, k := .st [(0, 3), (1, 3), (2, 3), (3, 42), (4, 3)], zero := [.t (.int .i64 0), .t (.int .i64 0), .t (.int .i64 0), .nil, .t (.int .i64 0)] }
theorem ti44_ok : TIok Try.prog 44 ti44 := TIok.mk_ (z := .agg #[.int .i64 0, .int .i64 0, .int .i64 0, .slice none 0 0, .int .i64 0]) (by kernel_rfl) rfl rfl Try.underlying44 rfl ⟨_, rfl, rfl, fieldsOk_of (by kernel_rfl)⟩ (by kernel_rfl) (fun h => by cases h)
def ti47 : TI := { size := 1, bytes := 24, agg := true, k := .st [(0, 24)], zero := [.nil] }
theorem ti47_ok : TIok Try.prog 47 ti47 := TIok.mk_ (z := .agg #[.slice none 0 0]) (by kernel_rfl) rfl rfl Try.underlying47 rfl ⟨_, rfl, rfl, fieldsOk_of (by kernel_rfl)⟩ (by kernel_rfl) (fun h => by cases h)
def ti48 : TI := { size := 1, bytes := 24, agg := true, k := .st [(0, 24)], zero := [.nil] }
theorem ti48_ok : TIok Try.prog 48 ti48 := TIok.mk_ (z := .agg #[.slice none 0 0]) (by kernel_rfl) rfl rfl Try.underlying48 rfl ⟨_, rfl, rfl, fieldsOk_of (by kernel_rfl)⟩ (by kernel_rfl) (fun h => by cases h)
def ti49 : TI := { size := 2, bytes := 32, agg := true, k := .st [(0, 3), (1, 48)], zero := [.t (.int .i64 0), .nil] }
theorem ti49_ok : TIok Try.prog 49 ti49 := TIok.mk_ (z := .agg #[.int .i64 0, .slice none 0 0]) (by kernel_rfl) rfl rfl Try.underlying49 rfl ⟨_, rfl, rfl, fieldsOk_of (by kernel_rfl)⟩ (by kernel_rfl) (fun h => by cases h)
def ti50 : TI := { size := 2, bytes := 32, agg := true, k := .st [(0, 3), (1, 48)], zero := [.t (.int .i64 0), .nil] }
theorem ti50_ok : TIok Try.prog 50 ti50 := TIok.mk_ (z := .agg #[.int .i64 0, .slice none 0 0]) (by kernel_rfl) rfl rfl Try.underlying50 rfl ⟨_, rfl, rfl, fieldsOk_of (by kernel_rfl)⟩ (by kernel_rfl) (fun h => by cases h)
def ti53 : TI := { size := 1, bytes := 24, agg := false, k := .sl 3, zero := [.nil] }
theorem ti53_ok : TIok Try.prog 53 ti53 := TIok.mk_ (z := .slice none 0 0) (by kernel_rfl) rfl rfl Try.underlying53 rfl rfl (by kernel_rfl) (fun h => by cases h)
def ti58 : TI := { size := 1, bytes := 24, agg := false, k := .sl 64, zero := [.nil] }
theorem ti58_ok : TIok Try.prog 58 ti58 := TIok.mk_ (z := .slice none 0 0) (by kernel_rfl) rfl rfl Try.underlying58 rfl rfl (by kernel_rfl) (fun h => by cases h)
def ti63 : TI := { size := 5, bytes := 72, agg := true, k := .st [(0, 3), (1, 3), (2, 53), (3, 22), (4, 3)], zero := [.t (.int .i64 0), .t (.int .i64 0), .nil, .nil, .t (.int .i64 0)] }
theorem ti63_ok : TIok Try.prog 63 ti63 := TIok.mk_ (z := .agg #[.int .i64 0, .int .i64 0, .slice none 0 0, .slice none 0 0, .int .i64 0]) (by kernel_rfl) rfl rfl Try.underlying63 rfl ⟨_, rfl, rfl, fieldsOk_of (by kernel_rfl)⟩ (by kernel_rfl) (fun h => by cases h)
def ti64 : TI := { size := 5, bytes := 72, agg := true, k := .st [(0, 3), (1, 3), (2, 53), (3, 22), (4, 3)], zero := [.t (.int .i64 0), .t (.int .i64 0), .nil, .nil, .t (.int .i64 0)] }
theorem ti64_ok : TIok Try.prog 64 ti64 := TIok.mk_ (z := .agg #[.int .i64 0, .int .i64 0, .slice none 0 0, .slice none 0 0, .int .i64 0]) (by kernel_rfl) rfl rfl Try.underlying64 rfl ⟨_, rfl, rfl, fieldsOk_of (by kernel_rfl)⟩ (by kernel_rfl) (fun h => by cases h)
def ti77 : TI := { size := 2, bytes := 32, agg := true, k := .st [(0, 3), (1, 22)], zero := [.t (.int .i64 0), .nil] }
theorem ti77_ok : TIok Try.prog 77 ti77 := TIok.mk_ (z := .agg #[.int .i64 0, .slice none 0 0]) (by kernel_rfl) rfl rfl Try.underlying77 rfl ⟨_, rfl, rfl, fieldsOk_of (by kernel_rfl)⟩ (by kernel_rfl) (fun h => by cases h)
def ti78 : TI := { size := 2, bytes := 32, agg := true, k := .st [(0, 3), (1, 22)], zero := [.t (.int .i64 0), .nil] }
theorem ti78_ok : TIok Try.prog 78 ti78 := TIok.mk_ (z := .agg #[.int .i64 0, .slice none 0 0]) (by kernel_rfl) rfl rfl Try.underlying78 rfl ⟨_, rfl, rfl, fieldsOk_of (by kernel_rfl)⟩ (by kernel_rfl) (fun h => by cases h)
def ti92 : TI := { size := 5, bytes := 40, agg := true, k := .st [(0, 3), (1, 3), (2, 3), (3, 3), (4, 3)], zero := [.t (.int .i64 0), .t (.int .i64 0), .t (.int .i64 0), .t (.int .i64 0), .t (.int .i64 0)], cmp := true }
theorem ti92_ok : TIok Try.prog 92 ti92 := TIok.mk_ (z := .agg #[.int .i64 0, .int .i64 0, .int .i64 0, .int .i64 0, .int .i64 0]) (by kernel_rfl) rfl rfl Try.underlying92 rfl ⟨_, rfl, rfl, fieldsOk_of (by kernel_rfl)⟩ (by kernel_rfl) (tiEq_of Try.prog 92 ti92 (by kernel_rfl) (by kernel_rfl) Try.underlying92 rfl (by kernel_rfl))
def ti93 : TI := { size := 5, bytes := 40, agg := true, k := .st [(0, 3), (1, 3), (2, 3), (3, 3), (4, 3)], zero := [.t (.int .i64 0), .t (.int .i64 0), .t (.int .i64 0), .t (.int .i64 0), .t (.int .i64 0)], cmp := true }
theorem ti93_ok : TIok Try.prog 93 ti93 := TIok.mk_ (z := .agg #[.int .i64 0, .int .i64 0, .int .i64 0, .int .i64 0, .int .i64 0]) (by kernel_rfl) rfl rfl Try.underlying93 rfl ⟨_, rfl, rfl, fieldsOk_of (by kernel_rfl)⟩ (by kernel_rfl) (tiEq_of Try.prog 93 ti93 (by kernel_rfl) (by kernel_rfl) Try.underlying93 rfl (by kernel_rfl))
def ti100 : TI := { size := 1, bytes := 24, agg := false, k := .sl 9, zero := [.nil] }
theorem ti100_ok : TIok Try.prog 100 ti100 := TIok.mk_ (z := .slice none 0 0) (by kernel_rfl) rfl rfl Try.underlying100 rfl rfl (by kernel_rfl) (fun h => by cases h)
def ti110 : TI := { size := 3, bytes := 40, agg := true, k := .st [(0, 22), (1, 3), (2, 3)], zero := [.nil, .t (.int .i64 0), .t (.int .i64 0)] }
theorem ti110_ok : TIok Try.prog 110 ti110 := TIok.mk_ (z := .agg #[.slice none 0 0, .int .i64 0, .int .i64 0]) (by kernel_rfl) rfl rfl Try.underlying110 rfl ⟨_, rfl, rfl, fieldsOk_of (by kernel_rfl)⟩ (by kernel_rfl) (fun h => by cases h)
def ti111 : TI := { size := 3, bytes := 40, agg := true, k := .st [(0, 22), (1, 3), (2, 3)], zero := [.nil, .t (.int .i64 0), .t (.int .i64 0)] }
theorem ti111_ok : TIok Try.prog 111 ti111 := TIok.mk_ (z := .agg #[.slice none 0 0, .int .i64 0, .int .i64 0]) (by kernel_rfl) rfl rfl Try.underlying111 rfl ⟨_, rfl, rfl, fieldsOk_of (by kernel_rfl)⟩ (by kernel_rfl) (fun h => by cases h)
def ti117 : TI := { size := 1, bytes := 8, agg := false, k := .int .u64, zero := [.t (.int .u64 0)] }
theorem ti117_ok : TIok Try.prog 117 ti117 := TIok.mk_ (z := .int .u64 0) (by kernel_rfl) rfl rfl Try.underlying117 rfl rfl (by kernel_rfl) (fun h => by cases h)
def ti146 : TI := { size := 1, bytes := 24, agg := false, k := .sl 53, zero := [.nil] }
theorem ti146_ok : TIok Try.prog 146 ti146 := TIok.mk_ (z := .slice none 0 0) (by kernel_rfl) rfl rfl Try.underlying146 rfl rfl (by kernel_rfl) (fun h => by cases h)
def ti154 : TI := { size := 1, bytes := 8, agg := false, k := .int .i64, zero := [.t (.int .i64 0)] }
theorem ti154_ok : TIok Try.prog 154 ti154 := TIok.mk_ (z := .int .i64 0) (by kernel_rfl) rfl rfl Try.underlying154 rfl rfl (by kernel_rfl) (fun h => by cases h)
def ti163 : TI := { size := 1, bytes := 4, agg := false, k := .int .u32, zero := [.t (.int .u32 0)] }
theorem ti163_ok : TIok Try.prog 163 ti163 := TIok.mk_ (z := .int .u32 0) (by kernel_rfl) rfl rfl Try.underlying163 rfl rfl (by kernel_rfl) (fun h => by cases h)
def ti165 : TI := { size := 1, bytes := 8, agg := false, k := .int .u64, zero := [.t (.int .u64 0)] }
theorem ti165_ok : TIok Try.prog 165 ti165 := TIok.mk_ (z := .int .u64 0) (by kernel_rfl) rfl rfl Try.underlying165 rfl rfl (by kernel_rfl) (fun h => by cases h)
def ti167 : TI := { size := 1, bytes := 8, agg := false, k := .int .u64, zero := [.t (.int .u64 0)] }
theorem ti167_ok : TIok Try.prog 167 ti167 := TIok.mk_ (z := .int .u64 0) (by kernel_rfl) rfl rfl Try.underlying167 rfl rfl (by kernel_rfl) (fun h => by cases h)
def tys : List (Nat × TI) := [(2, ti2), (3, ti3), (4, ti4), (5, ti5), (9, ti9), (12, ti12), (13, ti13), (21, ti21), (22, ti22), (24, ti24), (25, ti25), (26, ti26), (37, ti37), (38, ti38), (39, ti39), (42, ti42), (43, ti43), (44, ti44), (47, ti47), (48, ti48), (49, ti49), (50, ti50), (53, ti53), (58, ti58), (63, ti63), (64, ti64), (77, ti77), (78, ti78), (92, ti92), (93, ti93), (100, ti100), (110, ti110), (111, ti111), (117, ti117), (146, ti146), (154, ti154), (163, ti163), (165, ti165), (167, ti167)]
theorem tys_ok : TOk Try.prog (get tys) :=
  tok_of (by
    intro p hp
    simp only [tys, List.mem_cons, List.not_mem_nil, or_false] at hp
    rcases hp with rfl | rfl | rfl | rfl | rfl | rfl | rfl | rfl | rfl | rfl | rfl | rfl | rfl | rfl | rfl | rfl | rfl | rfl | rfl | rfl | rfl | rfl | rfl | rfl | rfl | rfl | rfl | rfl | rfl | rfl | rfl | rfl | rfl | rfl | rfl | rfl | rfl | rfl | rfl
    · exact ti2_ok
    · exact ti3_ok
    · exact ti4_ok
    · exact ti5_ok
    · exact ti9_ok
    · exact ti12_ok
    · exact ti13_ok
    · exact ti21_ok
    · exact ti22_ok
    · exact ti24_ok
    · exact ti25_ok
    · exact ti26_ok
    · exact ti37_ok
    · exact ti38_ok
    · exact ti39_ok
    · exact ti42_ok
    · exact ti43_ok
    · exact ti44_ok
    · exact ti47_ok
    · exact ti48_ok
    · exact ti49_ok
    · exact ti50_ok
    · exact ti53_ok
    · exact ti58_ok
    · exact ti63_ok
    · exact ti64_ok
    · exact ti77_ok
    · exact ti78_ok
    · exact ti92_ok
    · exact ti93_ok
    · exact ti100_ok
    · exact ti110_ok
    · exact ti111_ok
    · exact ti117_ok
    · exact ti146_ok
    · exact ti154_ok
    · exact ti163_ok
    · exact ti165_ok
    · exact ti167_ok)
/-- The contract of a function of this program, from the evaluation of its body. -/
theorem fn_of {f : FuncId} {fn : Func} {c : Code} (hf : Try.prog.funcs[f]? = some fn) (hb : fn.body = some c) (hn : (fn.name == "runtime.NumGoroutine") = false) {args : List V} {rs : List RV} (hlen : Nat.ble args.length fn.ntmps = true)
    (h : ev Try.prog (get tys) fn.ntmps c (retK (get tys) fn.results.toList rs) ⟨initEnv 0 args, [], 0⟩) : FnAt Try.prog f args rs :=
  fnAt_of tys_ok (by kernel_rfl) hf hb hn hlen h
/-- The same for one that writes in place. -/
theorem mut_of {f : FuncId} {fn : Func} {c : Code} (hf : Try.prog.funcs[f]? = some fn) (hb : fn.body = some c) (hn : (fn.name == "runtime.NumGoroutine") = false) {m m' : RV} {xs : List V} {y : T} (hlen : Nat.ble (xs.length + 1) fn.ntmps = true)
    (has : ∀ x ∈ xs, ∃ z, x = .one z ∧ isScal z = true) (hy : isScal y = true) (h : ev Try.prog (get tys) fn.ntmps c (retM (get tys) fn.results.toList m' y) (mSt m xs)) : MutAt Try.prog f m m' xs y :=
  mutAt_of tys_ok (by kernel_rfl) hf hb hn hlen has hy h
/-- The same for one that is called with a pointer to a box. -/
theorem cur_of {f : FuncId} {fn : Func} {c : Code} (hf : Try.prog.funcs[f]? = some fn) (hb : fn.body = some c) (hn : (fn.name == "runtime.NumGoroutine") = false) {cs cs' : List T} {xs : List V} {rs : List RV} (hlen : Nat.ble (xs.length + 1) fn.ntmps = true)
    (h : ev Try.prog (get tys) fn.ntmps c (retC (get tys) fn.results.toList cs' rs) (cSt cs xs)) : CurAt Try.prog f cs cs' xs rs :=
  cur_of_ev tys_ok (by kernel_rfl) hf hb hn hlen h
/-- The same, where of the results a property alone is known. -/
theorem fnE_of {f : FuncId} {fn : Func} {c : Code} (hf : Try.prog.funcs[f]? = some fn) (hb : fn.body = some c) (hn : (fn.name == "runtime.NumGoroutine") = false) {args : List V} {X : Type} {rs : X → List RV} {Q : X → Prop} (hlen : Nat.ble args.length fn.ntmps = true)
    (h : ev Try.prog (get tys) fn.ntmps c (retKE (get tys) fn.results.toList rs Q) ⟨initEnv 0 args, [], 0⟩) : FnE Try.prog f args X rs Q :=
  fnE_of_ev tys_ok (by kernel_rfl) hf hb hn hlen h
theorem curE_of {f : FuncId} {fn : Func} {c : Code} (hf : Try.prog.funcs[f]? = some fn) (hb : fn.body = some c) (hn : (fn.name == "runtime.NumGoroutine") = false) {cs : List T} {xs : List V} {X : Type} {cs' : X → List T} {rs : X → List RV} {Q : X → Prop} (hlen : Nat.ble (xs.length + 1) fn.ntmps = true)
    (h : ev Try.prog (get tys) fn.ntmps c (retCE (get tys) fn.results.toList cs' rs Q) (cSt cs xs)) : CurE Try.prog f cs xs X cs' rs Q :=
  curE_of_ev tys_ok (by kernel_rfl) hf hb hn hlen h
/-- A drawn region by the evaluation of its operations in another order. -/
theorem reg_perm {nt id : Nat} {ops : Array Oper} {K : St → Prop} {σ : St} (π f : List Nat) (hp : permOK π f ops = true) (hd : drawOK (permO π f ops) = true)
    (h : evOps Try.prog (get tys) nt false (permO π f ops) (permO π f ops).toList K σ) : RegAt Try.prog nt (.region id ops true) K σ := regAt_perm tys_ok (by kernel_rfl) π f hp hd h
/-- A call that is walked in place. -/
theorem jat_ {f : FuncId} {fn : Func} {c : Code} (hf : Try.prog.funcs[f]? = some fn) (hb : fn.body = some c) (hn : (fn.name == "runtime.NumGoroutine") = false) {avs : List AV} {σ : St} {K : AV → St → Prop} (hlen : Nat.ble avs.length fn.ntmps = true) (hav : avs.all noPin = true)
    (h : ev Try.prog (get tys) fn.ntmps c (retJ (get tys) fn.ntmps fn.results.toList K) ⟨jEnv fn.ntmps avs σ.env, σ.objs, σ.next⟩) : JAt Try.prog f avs σ K :=
  jat_of tys_ok (by kernel_rfl) hf hb hn hlen hav h
end Go.Proofs.Ytdbgmncapignoaa
