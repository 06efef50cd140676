/- What the row's condition on term.shapes gives the walks: the table's cells (Tab). -/
import Derived.Test.YtjopdafckhkmmaaDoorCBSatHBSTermNode
import Derived.Test.YtjopdafckhkmmaaDoorRows
import Derived.OpenShut
import Derived.ChangeArms
import Derived.Deep.Strs
import Derived.ProofKit
import Derived.LaidMore
import Derived.Stop.Joined
set_option linter.unusedVariables false
set_option linter.unusedSimpArgs false
namespace Go.Proofs.YtjopdafckhkmmaaDoor.MBS
open Go.ChangeShapes Go.WideShapes Go.ChangeAt Go.RowKit Go.Proofs.YtjopdafckhkmmaaDoorW.PrintWords Go.Proofs.YtjopdafckhkmmaaDoorW.PrintLast Go.Proofs.YtjopdafckhkmmaaDoorW.PrintMore
/-- An entry of the table as data. -/
def shD (p : List UInt8 × Int × Int) : DataW Unit := .agg [.lit (.string p.1), .lit (.int .i64 p.2.1), .lit (.int .i64 p.2.2)]
theorem shD_eq : (Rows.laid_retarget_term_shapes : DataW Unit) = .agg (shTab.map shD) := by rfl
theorem gShapes : Tryd.prog.globalNamed "retarget/term.shapes" = some 1 := by kernel_rfl
theorem tShapes : (Tryd.prog.globals[1]?).map (·.type) = some 129 := by kernel_rfl
set_option maxRecDepth 100000 in
theorem tab_of_laid {W : World} (h : laidMetH Tryd.prog [("retarget/term.shapes", Rows.laid_retarget_term_shapes)] W) : Tab W := by
  rw [MakeChecks.laidMetH_plain _ _ _ (by kernel_rfl)] at h
  obtain ⟨ps, ⟨g0, t0, cs0, f0, p0, q0, hg0, ht0, hv0, hd0, _, _⟩, _⟩ := h
  obtain rfl := Option.some.inj (gShapes.symm.trans hg0)
  obtain rfl := Option.some.inj (tShapes.symm.trans ht0)
  obtain ⟨xs, m, rfl, hx, hlen, hn, hel⟩ := DataW.trod_array Tryd.underlying129 hd0
  have c1 : Tryd.prog.cellsOf 111 = 3 := by kernel_rfl
  have cS : Tryd.prog.cellsOf 9 = 1 := by kernel_rfl
  have cI : Tryd.prog.cellsOf 3 = 1 := by kernel_rfl
  rw [c1] at hel
  simp only [Prod.mk.injEq] at hx
  have hmap : xs.map (·.1) = shTab.map shD := by
    have h1 := hx.1
    rw [shD_eq] at h1
    injection h1 with h1
    exact h1.symm
  intro k hk
  have hke := hel k hk
  obtain ⟨y, hy⟩ : ∃ y, xs[k]? = some y := ⟨_, List.getElem?_eq_getElem (by omega)⟩
  have hy1 : y.1 = shD (shTab.getD k ([], 0, 0)) := by
    have h2 := congrArg (fun l => l[k]?) hmap
    simp only [List.getElem?_map, hy, Option.map_some] at h2
    have hl : k < shTab.length := hk
    rw [List.getElem?_eq_getElem hl] at h2
    simp only [Option.map_some, Option.some.injEq] at h2
    rw [h2, List.getD_eq_getElem?_getD, List.getElem?_eq_getElem hl]
    rfl
  rw [hy] at hke
  obtain ⟨y0, y1, y2, n, rfl, hl3, e0, e1, e2⟩ := Deep.trod_struct3 Tryd.underlying111 hke
  dsimp only at e0 e1 e2
  rw [cS] at e0
  rw [cI] at e1 e2
  obtain ⟨s, s1, rfl, _⟩ := DataW.trod_string Tryd.underlying9 e0
  obtain ⟨a, a1, rfl, _⟩ := DataW.trod_int Tryd.underlying3 e1
  obtain ⟨b, b1, rfl, _⟩ := DataW.trod_int Tryd.underlying3 e2
  simp only [shD, DataW.agg.injEq, List.cons.injEq, and_true, DataW.lit.injEq, Lit.string.injEq, Lit.int.injEq, true_and] at hy1
  obtain ⟨hs, ha, hb⟩ := hy1
  have get : ∀ (j : Nat) (v : Value), j < 3 → ((((cs0.toList.drop (k * 3)).take 3).drop j).take 1) = [v] → W.cell? ⟨1, k * 3 + j, none⟩ = some v := fun j v hj hv => by
    rw [World.var?_cell hg0 hv0 (k * 3 + j)]
    have h3 : ((((cs0.toList.drop (k * 3)).take 3).drop j).take 1)[0]? = some v := by rw [hv]; rfl
    rw [List.getElem?_take_of_lt (by omega), List.getElem?_drop, List.getElem?_take_of_lt (by omega), List.getElem?_drop] at h3
    simpa using h3
  refine ⟨?_, ?_, ?_⟩
  · have := get 0 _ (by omega) s1
    rw [Nat.add_zero] at this
    rw [this, shW, ← hs]
  · rw [get 1 _ (by omega) a1, shP, ← ha]
  · rw [get 2 _ (by omega) b1, shH, ← hb]
end Go.Proofs.YtjopdafckhkmmaaDoor.MBS
