/- The maker's maps: gates and inputs as keys. -/
import Derived.Test.YtjopdafckhkmmaaDoorCBSatHBSTermVars
import Derived.DeepKeys4
import Derived.WideKeyPair
set_option linter.unusedVariables false
set_option linter.unusedSimpArgs false
namespace Go.Proofs.YtjopdafckhkmmaaDoor.MBS
open Go.Proofs.YtjopdafckhkmmaaDoor.Zed Go.RowKit Go.Proofs.YtjopdafckhkmmaaDoorW.PrintWords Go.Proofs.YtjopdafckhkmmaaDoorW.PrintLast Go.Proofs.YtjopdafckhkmmaaDoorW.PrintMore
open Go.Maps (has IsMap Keyed)
theorem laidOut : laidOutB Tryd.prog = true := by kernel_rfl
theorem keyedG : Keyed Tryd.prog 49 := Keyed.of_law (deep_law_laid laidOut (m := 3) q33_ (of_decide_eq_true q28_) q28_ q28_)
theorem keyedI : Keyed Tryd.prog 44 := Keyed.of_law (deep_law_laid laidOut (m := 3) q33_ (of_decide_eq_true q28_) q28_ q28_)
theorem keyTypeG : Tryd.prog.keyType 49 = true := by kernel_rfl
theorem keyTypeI : Tryd.prog.keyType 44 = true := by kernel_rfl
theorem pos_succ {n : Nat} (h : decide (0 < n) = true) : ∃ m, n = m + 1 := ⟨n - 1, by have := of_decide_eq_true h; omega⟩
theorem types_succ : ∃ m, Tryd.prog.types.size = m + 1 := pos_succ q28_
/-- A gate as a key. -/
def kyG (a b : Int) : Lit := .string (keyBytes [.int .i64 a, .int .i64 b])
theorem keyG (a b : Int) (ha : (Lit.int .i64 a).wf = true) (hb : (Lit.int .i64 b).wf = true) : keyOf Tryd.prog 49 (.agg #[.int .i64 a, .int .i64 b]) = some (kyG a b) := by
  obtain ⟨m, hm⟩ := types_succ
  have hc : Tryd.prog.cellsOf 49 = 2 := by kernel_rfl
  unfold keyOf
  rw [Tryd.underlying49]
  dsimp only
  rw [if_pos (by simp [keyTypeG, Value.formed, Tryd.underlying49, hc]), hm]
  unfold Program.keyLits
  simp only [Tryd.underlying49, Value.cells]
  have h3 : Tryd.prog.cellsOf 3 = 1 := by kernel_rfl
  rw [if_pos ⟨by rw [hc]; rfl, by kernel_rfl⟩, List.mapM_cons, List.mapM_cons, List.mapM_nil]
  simp only [h3, List.drop_zero, List.drop_succ_cons, List.take_succ_cons, List.take_zero]
  simp [Program.keyLits, Tryd.underlying3, ha, hb, kyG]
theorem kyG_inj {a b c d : Int} (ha : (Lit.int .i64 a).wf = true) (hb : (Lit.int .i64 b).wf = true) (hc : (Lit.int .i64 c).wf = true) (hd : (Lit.int .i64 d).wf = true) (h : kyG a b = kyG c d) : a = c ∧ b = d := by
  have h1 := keyedG.inj (keyG a b ha hb) (by rw [h]; exact keyG c d hc hd)
  simpa using h1
/-- An input as a key. -/
def kyI (s : ByteArray) (b : Int) : Lit := .string (keyBytes [.string s.data.toList, .int .i64 b])
theorem keyI (s : ByteArray) (b : Int) (hs : s.size ≤ maxLen) (hb : (Lit.int .i64 b).wf = true) : keyOf Tryd.prog 44 (.agg #[.string s, .int .i64 b]) = some (kyI s b) := by
  obtain ⟨m, hm⟩ := types_succ
  have hc : Tryd.prog.cellsOf 44 = 2 := by kernel_rfl
  unfold keyOf
  rw [Tryd.underlying44]
  dsimp only
  rw [if_pos (by simp [keyTypeI, Value.formed, Tryd.underlying44, hc]), hm]
  unfold Program.keyLits
  simp only [Tryd.underlying44, Value.cells]
  have h3 : Tryd.prog.cellsOf 3 = 1 := by kernel_rfl
  have h9 : Tryd.prog.cellsOf 9 = 1 := by kernel_rfl
  rw [if_pos ⟨by rw [hc]; rfl, by kernel_rfl⟩, List.mapM_cons, List.mapM_cons, List.mapM_nil]
  simp only [h3, h9, List.drop_zero, List.drop_succ_cons, List.take_succ_cons, List.take_zero]
  simp [Program.keyLits, Tryd.underlying3, Tryd.underlying9, hs, hb, kyI]
theorem kyI_inj {s t : ByteArray} {b d : Int} (hs : s.size ≤ maxLen) (hb : (Lit.int .i64 b).wf = true) (ht : t.size ≤ maxLen) (hd : (Lit.int .i64 d).wf = true) (h : kyI s b = kyI t d) : s = t ∧ b = d := by
  have h1 := keyedI.inj (keyI s b hs hb) (by rw [h]; exact keyI t d ht hd)
  simpa using h1
end Go.Proofs.YtjopdafckhkmmaaDoor.MBS
