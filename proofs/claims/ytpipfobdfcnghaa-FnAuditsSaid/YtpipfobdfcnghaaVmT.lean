/-
  The table of this seat's types for the program logic, written by a program of ours off the translation; each entry is held against the program by the kernel.
  Conditions: none.
-/
import Derived.Test.YtpipfobdfcnghaaProg
import Derived.Test.YtpipfobdfcnghaaVmP
import Derived.Test.YtpipfobdfcnghaaVmAf
namespace Go.Proofs.Ytpipfobdfcnghaa
open Go.Vm Go.RowKit

def ti2 : TI := { size := 1, bytes := 8, agg := false, k := .int .i64, zero := [.t (.int .i64 0)] }
theorem ti2_ok : TIok Try.prog 2 ti2 := TIok.mk_ (z := .int .i64 0) (by kernel_rfl) rfl rfl Try.underlying2 rfl rfl (by kernel_rfl) (fun h => by cases h)
def ti3 : TI := { size := 1, bytes := 8, agg := false, k := .int .i64, zero := [.t (.int .i64 0)] }
theorem ti3_ok : TIok Try.prog 3 ti3 := TIok.mk_ (z := .int .i64 0) (by kernel_rfl) rfl rfl Try.underlying3 rfl rfl (by kernel_rfl) (fun h => by cases h)
def ti4 : TI := { size := 1, bytes := 1, agg := false, k := .bool, zero := [.t (.bool false)] }
theorem ti4_ok : TIok Try.prog 4 ti4 := TIok.mk_ (z := .bool false) (by kernel_rfl) rfl rfl Try.underlying4 rfl rfl (by kernel_rfl) (fun h => by cases h)
def ti5 : TI := { size := 1, bytes := 1, agg := false, k := .int .u8, zero := [.t (.int .u8 0)] }
theorem ti5_ok : TIok Try.prog 5 ti5 := TIok.mk_ (z := .int .u8 0) (by kernel_rfl) rfl rfl Try.underlying5 rfl rfl (by kernel_rfl) (fun h => by cases h)
def ti9 : TI := { size := 1, bytes := 16, agg := false, k := .str, zero := [.t (.str ByteArray.empty)] }
theorem ti9_ok : TIok Try.prog 9 ti9 := TIok.mk_ (z := .string ByteArray.empty) (by kernel_rfl) rfl rfl Try.underlying9 rfl rfl (by kernel_rfl) (fun h => by cases h)
def ti12 : TI := { size := 1, bytes := 8, agg := false, k := .int .u64, zero := [.t (.int .u64 0)] }
theorem ti12_ok : TIok Try.prog 12 ti12 := TIok.mk_ (z := .int .u64 0) (by kernel_rfl) rfl rfl Try.underlying12 rfl rfl (by kernel_rfl) (fun h => by cases h)
def ti13 : TI := { size := 2, bytes := 24, agg := true, k := .st [(0, 9), (1, 12)], zero := [.t (.str ByteArray.empty), .t (.int .u64 0)] }
theorem ti13_ok : TIok Try.prog 13 ti13 := TIok.mk_ (z := .agg #[.string ByteArray.empty, .int .u64 0]) (by kernel_rfl) rfl rfl Try.underlying13 rfl ⟨_, rfl, rfl, fieldsOk_of (by kernel_rfl)⟩ (by kernel_rfl) (fun h => by cases h)
def ti21 : TI := { size := 1, bytes := 4, agg := false, k := .int .i32, zero := [.t (.int .i32 0)] }
theorem ti21_ok : TIok Try.prog 21 ti21 := TIok.mk_ (z := .int .i32 0) (by kernel_rfl) rfl rfl Try.underlying21 rfl rfl (by kernel_rfl) (fun h => by cases h)
def ti22 : TI := { size := 1, bytes := 24, agg := false, k := .sl 5, zero := [.nil] }
theorem ti22_ok : TIok Try.prog 22 ti22 := TIok.mk_ (z := .slice none 0 0) (by kernel_rfl) rfl rfl Try.underlying22 rfl rfl (by kernel_rfl) (fun h => by cases h)
def ti24 : TI := { size := 1, bytes := 24, agg := false, k := .sl 31, zero := [.nil] }
theorem ti24_ok : TIok Try.prog 24 ti24 := TIok.mk_ (z := .slice none 0 0) (by kernel_rfl) rfl rfl Try.underlying24 rfl rfl (by kernel_rfl) (fun h => by cases h)
def ti25 : TI := { size := 1, bytes := 24, agg := false, k := .sl 36, zero := [.nil] }
theorem ti25_ok : TIok Try.prog 25 ti25 := TIok.mk_ (z := .slice none 0 0) (by kernel_rfl) rfl rfl Try.underlying25 rfl rfl (by kernel_rfl) (fun h => by cases h)
def ti26 : TI := { size := 1, bytes := 24, agg := false, k := .sl 51, zero := [.nil] }
theorem ti26_ok : TIok Try.prog 26 ti26 := TIok.mk_ (z := .slice none 0 0) (by kernel_rfl) rfl rfl Try.underlying26 rfl rfl (by kernel_rfl) (fun h => by cases h)
def ti29 : TI := { size := 1, bytes := 24, agg := false, k := .sl 38, zero := [.nil] }
theorem ti29_ok : TIok Try.prog 29 ti29 := TIok.mk_ (z := .slice none 0 0) (by kernel_rfl) rfl rfl Try.underlying29 rfl rfl (by kernel_rfl) (fun h => by cases h)
def ti30 : TI := { size := 5, bytes := 56, agg := true, k := .st [(0, 3), (1, 3), (2, 3), (3, 29), (4, 3)], zero := [.t (.int .i64 0), .t (.int .i64 0), .t (.int .i64 0), .nil, .t (.int .i64 0)] }
theorem ti30_ok : TIok Try.prog 30 ti30 := TIok.mk_ (z := .agg #[.int .i64 0, .int .i64 0, .int .i64 0, .slice none 0 0, .int .i64 0]) (by kernel_rfl) rfl rfl Try.underlying30 rfl ⟨_, rfl, rfl, fieldsOk_of (by kernel_rfl)⟩ (by kernel_rfl) (fun h => by cases h)
def ti31 : TI := { size := 5, bytes := 56, agg := true, k := .st [(0, 3), (1, 3), (2, 3), (3, 29), (4, 3)], zero := [.t (.int .i64 0), .t (.int .i64 0), .t (.int .i64 0), .nil, .t (.int .i64 0)] }
theorem ti31_ok : TIok Try.prog 31 ti31 := TIok.mk_ (z := .agg #[.int .i64 0, .int .i64 0, .int .i64 0, .slice none 0 0, .int .i64 0]) (by kernel_rfl) rfl rfl Try.underlying31 rfl ⟨_, rfl, rfl, fieldsOk_of (by kernel_rfl)⟩ (by kernel_rfl) (fun h => by cases h)
def ti34 : TI := { size := 1, bytes := 24, agg := false, k := .sl 22, zero := [.nil] }
theorem ti34_ok : TIok Try.prog 34 ti34 := TIok.mk_ (z := .slice none 0 0) (by kernel_rfl) rfl rfl Try.underlying34 rfl rfl (by kernel_rfl) (fun h => by cases h)
def ti35 : TI := { size := 1, bytes := 24, agg := true, k := .st [(0, 34)], zero := [.nil] }
theorem ti35_ok : TIok Try.prog 35 ti35 := TIok.mk_ (z := .agg #[.slice none 0 0]) (by kernel_rfl) rfl rfl Try.underlying35 rfl ⟨_, rfl, rfl, fieldsOk_of (by kernel_rfl)⟩ (by kernel_rfl) (fun h => by cases h)
def ti36 : TI := { size := 1, bytes := 24, agg := true, k := .st [(0, 34)], zero := [.nil] }
theorem ti36_ok : TIok Try.prog 36 ti36 := TIok.mk_ (z := .agg #[.slice none 0 0]) (by kernel_rfl) rfl rfl Try.underlying36 rfl ⟨_, rfl, rfl, fieldsOk_of (by kernel_rfl)⟩ (by kernel_rfl) (fun h => by cases h)
def ti37 : TI := { size := 2, bytes := 32, agg := true, k := .st [(0, 3), (1, 36)], zero := [.t (.int .i64 0), .nil] }
theorem ti37_ok : TIok Try.prog 37 ti37 := TIok.mk_ (z := .agg #[.int .i64 0, .slice none 0 0]) (by kernel_rfl) rfl rfl Try.underlying37 rfl ⟨_, rfl, rfl, fieldsOk_of (by kernel_rfl)⟩ (by kernel_rfl) (fun h => by cases h)
def ti38 : TI := { size := 2, bytes := 32, agg := true, k := .st [(0, 3), (1, 36)], zero := [.t (.int .i64 0), .nil] }
theorem ti38_ok : TIok Try.prog 38 ti38 := TIok.mk_ (z := .agg #[.int .i64 0, .slice none 0 0]) (by kernel_rfl) rfl rfl Try.underlying38 rfl ⟨_, rfl, rfl, fieldsOk_of (by kernel_rfl)⟩ (by kernel_rfl) (fun h => by cases h)
def ti41 : TI := { size := 1, bytes := 24, agg := false, k := .sl 3, zero := [.nil] }
theorem ti41_ok : TIok Try.prog 41 ti41 := TIok.mk_ (z := .slice none 0 0) (by kernel_rfl) rfl rfl Try.underlying41 rfl rfl (by kernel_rfl) (fun h => by cases h)
def ti50 : TI := { size := 5, bytes := 40, agg := true, k := .st [(0, 3), (1, 3), (2, 3), (3, 3), (4, 3)], zero := [.t (.int .i64 0), .t (.int .i64 0), .t (.int .i64 0), .t (.int .i64 0), .t (.int .i64 0)], cmp := true }
theorem ti50_ok : TIok Try.prog 50 ti50 := TIok.mk_ (z := .agg #[.int .i64 0, .int .i64 0, .int .i64 0, .int .i64 0, .int .i64 0]) (by kernel_rfl) rfl rfl Try.underlying50 rfl ⟨_, rfl, rfl, fieldsOk_of (by kernel_rfl)⟩ (by kernel_rfl) (tiEq_of Try.prog 50 ti50 (by kernel_rfl) (by kernel_rfl) Try.underlying50 rfl (by kernel_rfl))
def ti51 : TI := { size := 5, bytes := 40, agg := true, k := .st [(0, 3), (1, 3), (2, 3), (3, 3), (4, 3)], zero := [.t (.int .i64 0), .t (.int .i64 0), .t (.int .i64 0), .t (.int .i64 0), .t (.int .i64 0)], cmp := true }
theorem ti51_ok : TIok Try.prog 51 ti51 := TIok.mk_ (z := .agg #[.int .i64 0, .int .i64 0, .int .i64 0, .int .i64 0, .int .i64 0]) (by kernel_rfl) rfl rfl Try.underlying51 rfl ⟨_, rfl, rfl, fieldsOk_of (by kernel_rfl)⟩ (by kernel_rfl) (tiEq_of Try.prog 51 ti51 (by kernel_rfl) (by kernel_rfl) Try.underlying51 rfl (by kernel_rfl))
def ti59 : TI := { size := 1, bytes := 24, agg := false, k := .sl 9, zero := [.nil] }
theorem ti59_ok : TIok Try.prog 59 ti59 := TIok.mk_ (z := .slice none 0 0) (by kernel_rfl) rfl rfl Try.underlying59 rfl rfl (by kernel_rfl) (fun h => by cases h)
def ti60 : TI := { size := 3, bytes := 40, agg := true, k := .st [(0, 22), (1, 3), (2, 3)], zero := [.nil, .t (.int .i64 0), .t (.int .i64 0)] }
theorem ti60_ok : TIok Try.prog 60 ti60 := TIok.mk_ (z := .agg #[.slice none 0 0, .int .i64 0, .int .i64 0]) (by kernel_rfl) rfl rfl Try.underlying60 rfl ⟨_, rfl, rfl, fieldsOk_of (by kernel_rfl)⟩ (by kernel_rfl) (fun h => by cases h)
def ti61 : TI := { size := 3, bytes := 40, agg := true, k := .st [(0, 22), (1, 3), (2, 3)], zero := [.nil, .t (.int .i64 0), .t (.int .i64 0)] }
theorem ti61_ok : TIok Try.prog 61 ti61 := TIok.mk_ (z := .agg #[.slice none 0 0, .int .i64 0, .int .i64 0]) (by kernel_rfl) rfl rfl Try.underlying61 rfl ⟨_, rfl, rfl, fieldsOk_of (by kernel_rfl)⟩ (by kernel_rfl) (fun h => by cases h)
def ti93 : TI := { size := 1, bytes := 8, agg := false, k := .int .u64, zero := [.t (.int .u64 0)] }
theorem ti93_ok : TIok Try.prog 93 ti93 := TIok.mk_ (z := .int .u64 0) (by kernel_rfl) rfl rfl Try.underlying93 rfl rfl (by kernel_rfl) (fun h => by cases h)
def ti97 : TI := { size := 1, bytes := 24, agg := false, k := .sl 41, zero := [.nil] }
theorem ti97_ok : TIok Try.prog 97 ti97 := TIok.mk_ (z := .slice none 0 0) (by kernel_rfl) rfl rfl Try.underlying97 rfl rfl (by kernel_rfl) (fun h => by cases h)
def ti106 : TI := { size := 1, bytes := 4, agg := false, k := .int .u32, zero := [.t (.int .u32 0)] }
theorem ti106_ok : TIok Try.prog 106 ti106 := TIok.mk_ (z := .int .u32 0) (by kernel_rfl) rfl rfl Try.underlying106 rfl rfl (by kernel_rfl) (fun h => by cases h)
def tys : List (Nat × TI) := [(2, ti2), (3, ti3), (4, ti4), (5, ti5), (9, ti9), (12, ti12), (13, ti13), (21, ti21), (22, ti22), (24, ti24), (25, ti25), (26, ti26), (29, ti29), (30, ti30), (31, ti31), (34, ti34), (35, ti35), (36, ti36), (37, ti37), (38, ti38), (41, ti41), (50, ti50), (51, ti51), (59, ti59), (60, ti60), (61, ti61), (93, ti93), (97, ti97), (106, ti106)]
theorem tys_ok : TOk Try.prog (get tys) :=
  tok_of (by
    intro p hp
    simp only [tys, List.mem_cons, List.not_mem_nil, or_false] at hp
    rcases hp with rfl | rfl | rfl | rfl | rfl | rfl | rfl | rfl | rfl | rfl | rfl | rfl | rfl | rfl | rfl | rfl | rfl | rfl | rfl | rfl | rfl | rfl | rfl | rfl | rfl | rfl | rfl | rfl | rfl
    · exact ti2_ok
    · exact ti3_ok
    · exact ti4_ok
    · exact ti5_ok
    · exact ti9_ok
    · exact ti12_ok
    · exact ti13_ok
    · exact ti21_ok
    · exact ti22_ok
    · exact ti24_ok
    · exact ti25_ok
    · exact ti26_ok
    · exact ti29_ok
    · exact ti30_ok
    · exact ti31_ok
    · exact ti34_ok
    · exact ti35_ok
    · exact ti36_ok
    · exact ti37_ok
    · exact ti38_ok
    · exact ti41_ok
    · exact ti50_ok
    · exact ti51_ok
    · exact ti59_ok
    · exact ti60_ok
    · exact ti61_ok
    · exact ti93_ok
    · exact ti97_ok
    · exact ti106_ok)
/-- The contract of a function of this program, from the evaluation of its body. -/
theorem fn_of {f : FuncId} {fn : Func} {c : Code} (hf : Try.prog.funcs[f]? = some fn) (hb : fn.body = some c) (hn : (fn.name == "runtime.NumGoroutine") = false) {args : List V} {rs : List RV} (hlen : Nat.ble args.length fn.ntmps = true)
    (h : ev Try.prog (get tys) fn.ntmps c (retK (get tys) fn.results.toList rs) ⟨initEnv 0 args, [], 0⟩) : FnAt Try.prog f args rs :=
  fnAt_of tys_ok (by kernel_rfl) hf hb hn hlen h
/-- The same for one that writes in place. -/
theorem mut_of {f : FuncId} {fn : Func} {c : Code} (hf : Try.prog.funcs[f]? = some fn) (hb : fn.body = some c) (hn : (fn.name == "runtime.NumGoroutine") = false) {m m' : RV} {xs : List V} {y : T} (hlen : Nat.ble (xs.length + 1) fn.ntmps = true)
    (has : ∀ x ∈ xs, ∃ z, x = .one z ∧ isScal z = true) (hy : isScal y = true) (h : ev Try.prog (get tys) fn.ntmps c (retM (get tys) fn.results.toList m' y) (mSt m xs)) : MutAt Try.prog f m m' xs y :=
  mutAt_of tys_ok (by kernel_rfl) hf hb hn hlen has hy h
/-- The same for one that is called with a pointer to a box. -/
theorem cur_of {f : FuncId} {fn : Func} {c : Code} (hf : Try.prog.funcs[f]? = some fn) (hb : fn.body = some c) (hn : (fn.name == "runtime.NumGoroutine") = false) {cs cs' : List T} {xs : List V} {rs : List RV} (hlen : Nat.ble (xs.length + 1) fn.ntmps = true)
    (h : ev Try.prog (get tys) fn.ntmps c (retC (get tys) fn.results.toList cs' rs) (cSt cs xs)) : CurAt Try.prog f cs cs' xs rs :=
  cur_of_ev tys_ok (by kernel_rfl) hf hb hn hlen h
/-- The same, where of the results a property alone is known. -/
theorem fnE_of {f : FuncId} {fn : Func} {c : Code} (hf : Try.prog.funcs[f]? = some fn) (hb : fn.body = some c) (hn : (fn.name == "runtime.NumGoroutine") = false) {args : List V} {X : Type} {rs : X → List RV} {Q : X → Prop} (hlen : Nat.ble args.length fn.ntmps = true)
    (h : ev Try.prog (get tys) fn.ntmps c (retKE (get tys) fn.results.toList rs Q) ⟨initEnv 0 args, [], 0⟩) : FnE Try.prog f args X rs Q :=
  fnE_of_ev tys_ok (by kernel_rfl) hf hb hn hlen h
theorem curE_of {f : FuncId} {fn : Func} {c : Code} (hf : Try.prog.funcs[f]? = some fn) (hb : fn.body = some c) (hn : (fn.name == "runtime.NumGoroutine") = false) {cs : List T} {xs : List V} {X : Type} {cs' : X → List T} {rs : X → List RV} {Q : X → Prop} (hlen : Nat.ble (xs.length + 1) fn.ntmps = true)
    (h : ev Try.prog (get tys) fn.ntmps c (retCE (get tys) fn.results.toList cs' rs Q) (cSt cs xs)) : CurE Try.prog f cs xs X cs' rs Q :=
  curE_of_ev tys_ok (by kernel_rfl) hf hb hn hlen h
/-- A call that is walked in place. -/
theorem jat_ {f : FuncId} {fn : Func} {c : Code} (hf : Try.prog.funcs[f]? = some fn) (hb : fn.body = some c) (hn : (fn.name == "runtime.NumGoroutine") = false) {avs : List AV} {σ : St} {K : AV → St → Prop} (hlen : Nat.ble avs.length fn.ntmps = true) (hav : avs.all noPin = true)
    (h : ev Try.prog (get tys) fn.ntmps c (retJ (get tys) fn.ntmps fn.results.toList K) ⟨jEnv fn.ntmps avs σ.env, σ.objs, σ.next⟩) : JAt Try.prog f avs σ K :=
  jat_of tys_ok (by kernel_rfl) hf hb hn hlen hav h
end Go.Proofs.Ytpipfobdfcnghaa
