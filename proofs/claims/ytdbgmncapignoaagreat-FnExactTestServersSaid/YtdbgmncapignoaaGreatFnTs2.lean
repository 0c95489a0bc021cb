/-
  Contracts: servers that are tested with a query.
  Conditions: none.
-/
import Derived.Test.YtdbgmncapignoaaGreatFnTs
import Derived.Test.YtdbgmncapignoaaGreatFnCl
namespace Go.Proofs.YtdbgmncapignoaaGreat
set_option maxHeartbeats 4000000
set_option maxRecDepth 20000
open Go.Vm Go.RowKit
attribute [local irreducible] FnAt MutAt InAt JAt CurAt

attribute [local irreducible] worldOk ansAs falseAns servKey guiltyS guiltyR freshS archHas archDb lastRound newServer
def testAns (w : DWorld) (d : DDatabase) (k : Int) (i : Nat) (s : DServer) : DSignedAnswer := ansAs s (servKey w.Master i) k d (randSel (khash w.Seed [227, w.Round, (i : Int)]) w.Rows)
def badAns (w : DWorld) (d : DDatabase) (k : Int) (i : Nat) : Bool := match w.Servers[i]? with
  | some s => falseAns (servKey w.Master i) d (testAns w d k i s)
  | none => false
theorem badAns_eq (w : DWorld) (d : DDatabase) (k : Int) {i : Nat} (h : i < w.Servers.length) : badAns w d k i = falseAns (servKey w.Master i) d (testAns w d k i w.Servers[i]) := by
  simp only [badAns, List.getElem?_eq_getElem h]
def badL (w : DWorld) (d : DDatabase) (k : Int) (i : Nat) : List Int := ((List.range i).filter (badAns w d k)).map fun j : Nat => (j : Int)
theorem badL_T {w : DWorld} {d : DDatabase} {k : Int} {i : Nat} (h : badAns w d k i = true) : badL w d k (i + 1) = badL w d k i ++ [(i : Int)] := by
  simp [badL, List.range_succ, h]
theorem badL_F {w : DWorld} {d : DDatabase} {k : Int} {i : Nat} (h : badAns w d k i = false) : badL w d k (i + 1) = badL w d k i := by
  simp [badL, List.range_succ, h]
theorem badL_len (w : DWorld) (d : DDatabase) (k : Int) (i : Nat) : (badL w d k i).length ≤ i := by
  unfold badL
  rw [List.length_map]
  exact Nat.le_trans (List.length_filter_le _ _) (by simp)
theorem guiltyS_app (w : DWorld) (l : List Int) (x : Int) : guiltyS w (l ++ [x]) = replS w (guiltyS w l) x := by unfold guiltyS; rw [List.foldl_append]; rfl
theorem guiltyR_app (w : DWorld) (l : List Int) (x : Int) : guiltyR w (l ++ [x]) = replR w (guiltyR w l) x := by unfold guiltyR; rw [List.foldl_append]; rfl
theorem inServ_of (w : DWorld) {i : Nat} (h : i < w.Servers.length) : inServ w (i : Int) = true := by unfold inServ; exact inR_iff.2 ⟨by omega, by omega⟩
def testOk (w : DWorld) : Bool := worldOk w && archHas w.Archive (lastRound w.Archive)
def testL (w : DWorld) : List Int := badL w (archDb w.Archive (lastRound w.Archive)) (lastRound w.Archive) w.Servers.length
def testW (w : DWorld) : DWorld := if testOk w then ⟨w.Rows, guiltyS w (testL w), w.Devices, w.Archive, w.Master, w.Seed, w.Round, guiltyR w (testL w), w.Cancelled⟩ else w
theorem testS_T (w : DWorld) (d : DDatabase) (k : Int) {i : Nat} (hi : i < w.Servers.length) (h : badAns w d k i = true) : ((guiltyS w (badL w d k i)).map DServer.e).set i (DServer.e { newServer (i : Int) w.Rows 0 with Round := w.Round }) = (guiltyS w (badL w d k (i + 1))).map DServer.e := by
  rw [badL_T h, guiltyS_app, rep_set]
  unfold replS
  rw [if_pos (inServ_of w hi), Int.toNat_natCast]
  unfold freshS
  rfl
theorem testS_T' (w : DWorld) (d : DDatabase) (k : Int) {i : Nat} (hi : i < w.Servers.length) (h : badAns w d k i = true) (hr : ∀ s ∈ w.Servers, s.Round = w.Round) : ((guiltyS w (badL w d k i)).map DServer.e).set i (DServer.e { newServer (i : Int) w.Rows 0 with Round := ((guiltyS w (badL w d k i))[i]'(by rw [guiltyS_len]; exact hi)).Round }) = (guiltyS w (badL w d k (i + 1))).map DServer.e := by
  rw [guiltyS_round w _ hr _ (List.getElem_mem _)]; exact testS_T w d k hi h
theorem testR_T (w : DWorld) (d : DDatabase) (k : Int) {i : Nat} (hi : i < w.Servers.length) (h : badAns w d k i = true) : (guiltyR w (badL w d k i)).map eI ++ [eI (i : Int)] = (guiltyR w (badL w d k (i + 1))).map eI := by
  rw [badL_T h, guiltyR_app]
  unfold replR
  rw [if_pos (inServ_of w hi), List.map_append]; rfl
theorem testS_F (w : DWorld) (d : DDatabase) (k : Int) {i : Nat} (h : badAns w d k i = false) : (guiltyS w (badL w d k i)).map DServer.e = (guiltyS w (badL w d k (i + 1))).map DServer.e := by rw [badL_F h]
theorem testR_F (w : DWorld) (d : DDatabase) (k : Int) {i : Nat} (h : badAns w d k i = false) : (guiltyR w (badL w d k i)).map eI = (guiltyR w (badL w d k (i + 1))).map eI := by rw [badL_F h]
theorem test_row (w : DWorld) (g : List Int) {i : Nat} (hi : i < w.Servers.length) : ((guiltyS w g).map DServer.e)[i]? = some (DServer.e ((guiltyS w g)[i]'(by rw [guiltyS_len]; exact hi))) := by
  rw [List.getElem?_map, List.getElem?_eq_getElem]; rfl
theorem testR_len (w : DWorld) (d : DDatabase) (k : Int) (i : Nat) : (guiltyR w (badL w d k i)).length ≤ w.Replaced.length + i := by
  have h := guiltyR_len w (badL w d k i) w.Replaced
  have h2 := badL_len w d k i
  unfold guiltyR
  omega
theorem ansAs_len (s : DServer) (k r : Int) (d : DDatabase) (v : List Int) : (ansAs s k r d v).Selection.length ≤ v.length ∧ (ansAs s k r d v).Data.length ≤ (ansQ d v).length := by
  have hf : ∀ l : List UInt8, (flip0 l).length = l.length := fun l => by cases l <;> rfl
  unfold ansAs signAns
  split <;> split <;> simp [lieAns, withMac, hf]
theorem archDb_mem {a : DArchive} {k : Int} (h : archHas a k = true) : ∃ r ∈ a.Rounds, archDb a k = r.Database := by
  unfold archHas at h
  unfold archDb
  cases e : archFind a.Rounds k with
  | none => rw [e] at h; cases h
  | some r => exact ⟨r, firstP_mem e, rfl⟩
theorem archOk_rows {a : DArchive} (h : archOk a = true) : ∀ r ∈ a.Rounds, (r.Database.Rows.length : Int) = a.Rows := fun r hr => by
  unfold archOk at h
  simp only [Bool.and_eq_true] at h
  obtain ⟨i, hi, rfl⟩ := List.mem_iff_getElem.1 hr
  have h2 := (allN_iff _ _).1 (by first | exact h.1.1 | exact h.1 | exact h.2 | exact h.1.2) i (Nat.zero_le _) (by omega)
  rw [roundOk_eq _ _ hi] at h2
  simp only [Bool.and_eq_true, decide_eq_true_eq] at h2
  first | exact h2.2 | omega | simp_all
theorem worldOk_hd {w : DWorld} (h : worldOk w = true) : inR w.Rows 1 64 = true ∧ archOk w.Archive = true ∧ w.Archive.Rows = w.Rows ∧ inR (w.Servers.length : Int) 2 4 = true := by
  unfold worldOk worldHd at h
  simp only [Bool.and_eq_true, decide_eq_true_eq] at h
  exact ⟨h.2.1.1.1.1.1.1.1.1, h.2.1.1.1.1.1.2, h.2.1.1.1.1.2, h.2.1.1.1.1.1.1.1.2⟩
theorem test_none {w : DWorld} (hw : worldOk w = true) {k : Int} (hk : archHas w.Archive k = true) (key : Int) {s : DServer} {r : Int} {v : List Int} (h : ansOk (archDb w.Archive k) v = false) : falseAns key (archDb w.Archive k) (ansAs s key r (archDb w.Archive k) v) = false := by
  have e : ansAs s key r (archDb w.Archive k) v = ⟨0, 0, [], [], 0⟩ := by unfold ansAs signAns; rw [h]; rfl
  obtain ⟨h1, h2, h3, _⟩ := worldOk_hd hw
  obtain ⟨q, hq, hd⟩ := archDb_mem hk
  have h4 := archOk_rows h2 q hq
  have h5 := inR_iff.1 h1
  have h6 : ansOk (archDb w.Archive k) [] = false := by
    rw [hd]
    unfold ansOk selOk
    have : ¬ ((([] : List Int).length : Int) = (q.Database.Rows.length : Int)) := by rw [h4, h3]; simp only [List.length_nil]; omega
    rw [decide_eq_false this]
    simp
  have h7 : ansQ (archDb w.Archive k) [] = [] := List.eq_nil_of_length_eq_zero ((ansQ_nil _ _).2 h6)
  rw [e]
  unfold falseAns
  rw [h7]
  simp

end Go.Proofs.YtdbgmncapignoaaGreat
