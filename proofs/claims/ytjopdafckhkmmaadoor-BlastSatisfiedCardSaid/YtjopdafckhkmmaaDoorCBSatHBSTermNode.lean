/- term.shaped by hand, the table term.shapes in its variable as the program lays it (Tab). -/
import Derived.Test.YtjopdafckhkmmaaDoorCBSatHBSTermWidths
import Derived.BigRegion
set_option linter.unusedVariables false
set_option linter.unusedSimpArgs false
namespace Go.Proofs.YtjopdafckhkmmaaDoor.MBS
open Go.Proofs.YtjopdafckhkmmaaDoor.Zed Go.RowKit Go.Proofs.YtjopdafckhkmmaaDoorW.PrintWords Go.Proofs.YtjopdafckhkmmaaDoorW.PrintLast Go.Proofs.YtjopdafckhkmmaaDoorW.PrintMore
/-- The table term.shapes: word, parts, how, kind by kind. -/
def shTab : List (List UInt8 × Int × Int) := [([], 0, 0), ([], 0, 0), ([], 0, 0), ([110, 111, 116], 1, 1), ([110, 101, 103], 1, 1), ([97, 100, 100], 2, 1), ([115, 117, 98], 2, 1), ([109, 117, 108], 2, 1), ([97, 110, 100], 2, 1), ([111, 114], 2, 1), ([120, 111, 114], 2, 1), ([115, 104, 108], 2, 1), ([115, 104, 114], 2, 1), ([115, 97, 114], 2, 1), ([117, 100, 105, 118], 2, 1), ([117, 114, 101, 109], 2, 1), ([101, 113], 2, 2), ([117, 108, 116], 2, 2), ([115, 108, 116], 2, 2), ([105, 116, 101], 3, 3), ([99, 111, 110, 99, 97, 116], 2, 4), ([101, 120, 116, 114, 97, 99, 116], 1, 5), ([122, 101, 120, 116], 1, 6), ([115, 101, 120, 116], 1, 6), ([108, 111, 97, 100], 1, 7)]
def shW (k : Nat) : ByteArray := ⟨(shTab.getD k ([], 0, 0)).1.toArray⟩
def shP (k : Nat) : Int := (shTab.getD k ([], 0, 0)).2.1
def shH (k : Nat) : Int := (shTab.getD k ([], 0, 0)).2.2
theorem shOut (k : Nat) (h : k ≥ 25) : shTab.getD k ([], 0, 0) = ([], 0, 0) := by
  rw [List.getD_eq_getElem?_getD, List.getElem?_eq_none (show shTab.length ≤ k from h)]
  rfl
def Tab (w : World) : Prop := ∀ k : Nat, k < 25 → w.cell? ⟨1, k * 3, none⟩ = some (.string (shW k)) ∧ w.cell? ⟨1, k * 3 + 1, none⟩ = some (.int .i64 (shP k)) ∧ w.cell? ⟨1, k * 3 + 2, none⟩ = some (.int .i64 (shH k))
theorem Tab.below {w W : World} (h : Tab w) (hb : Below w.heap.size w W) : Tab W := fun k hk => by
  obtain ⟨h0, h1, h2⟩ := h k hk
  exact ⟨(hb.cell (World.block_lt_of_cell? w _ h0)).trans h0, (hb.cell (World.block_lt_of_cell? w _ h1)).trans h1, (hb.cell (World.block_lt_of_cell? w _ h2)).trans h2⟩
set_option maxRecDepth 100000 in
set_option maxHeartbeats 2000000 in
theorem shaped_calls (k : Nat) (hk : k < 256) (w : World) (hT : Tab w) :
    Calls Tryd.prog 75 #[.int .u8 k] w fun e w' => e = .returned (.tuple #[.agg #[.string (shW k), .int .i64 (shP k), .int .i64 (shH k)], .bool (decide (0 < shP k))]) ∧ Below w.heap.size w w' := by
  have hu111 := Tryd.underlying111
  rcases Nat.lt_or_ge k 25 with h | h
  · obtain ⟨h0, h1, h2⟩ := hT k h
    obtain ⟨s, hs⟩ : ∃ s, s = shW k := ⟨_, rfl⟩
    obtain ⟨p, hp⟩ : ∃ p, p = shP k := ⟨_, rfl⟩
    obtain ⟨q, hq⟩ : ∃ q, q = shH k := ⟨_, rfl⟩
    rw [← hs] at h0 ⊢
    rw [← hp] at h1 ⊢
    rw [← hq] at h2 ⊢
    have hlt := World.block_lt_of_cell? w _ h0
    simp only at hlt
    clear hT hs hp hq
    have hk24 : decide (24 < (k : Int)) = false := decide_eq_false q29_
    have hk25 : (k : Int) < 25 := by omega
    have hWb : Below w.heap.size w (w.alloc (.cells #[.string ⟨#[]⟩, .int .i64 0, .int .i64 0] 111)) := below_alloc (Below.refl _ _) _
    have hWx := blk_new w (.cells #[.string ⟨#[]⟩, .int .i64 0, .int .i64 0] 111)
    have hsz : (w.alloc (.cells #[.string ⟨#[]⟩, .int .i64 0, .int .i64 0] 111)).heap.size = w.heap.size + 1 := by simp
    obtain ⟨W2, hW2⟩ : ∃ W2, W2 = w.alloc (.cells #[.string ⟨#[]⟩, .int .i64 0, .int .i64 0] 111) := ⟨_, rfl⟩
    rw [← hW2] at hWb hWx hsz
    replace h0 := (hWb.cell (p := ⟨1, k * 3, none⟩) hlt).trans h0
    replace h1 := (hWb.cell (p := ⟨1, k * 3 + 1, none⟩) hlt).trans h1
    replace h2 := (hWb.cell (p := ⟨1, k * 3 + 2, none⟩) hlt).trans h2
    obtain ⟨g, hg⟩ : ∃ g, g = w.heap.size := ⟨_, rfl⟩
    rw [← hg] at hWx hlt
    have hx0 := (blk_cell hWx 0).trans (show _ = some (Value.string ⟨#[]⟩) from rfl)
    have hx1 := (blk_cell hWx 1).trans (show _ = some (Value.int .i64 0) from rfl)
    have hx2 := (blk_cell hWx 2).trans (show _ = some (Value.int .i64 0) from rfl)
    have hf0 := blk_frozen hWx 0
    have hf1 := blk_frozen hWx 1
    have hf2 := blk_frozen hWx 2
    have HWB := Aside0.mk hWb
    have HW2 := Aside0.mk hW2
    have HG := Aside0.mk hg
    have HX := Aside0.mk hWx
    clear hWb hW2 hg hWx
    go_enter Tryd.func75, Tryd.ntmps75
    go_wp2
    rw [← HW2.out, ← HG.out]
    go_region
    go_wp2
    have hb1 := blk_set (blk_set (blk_set HX.out 0 (.string s)) 1 (.int .i64 p)) 2 (.int .i64 q)
    refine bodyPost_ret (v := .tuple #[.agg #[.string s, .int .i64 p, .int .i64 q], .bool (decide (0 < p))]) ?hr rfl ⟨rfl, ?_⟩
    case hr => exact results_ct (p := 2) (u := 3) q28_ _ _ g 111 #[.string s, .int .i64 p, .int .i64 q] (0, 0) _ rfl hb1 Tryd.underlying111 rfl q28_
    have hg : w.heap.size ≤ g := by rw [HG.out]; exact Nat.le_refl _
    exact below_drew1 (below_set (below_set (below_set HWB.out hg) hg) hg)
  · have hw0 : shW k = ⟨#[]⟩ := by unfold shW; rw [shOut k h]
    have hp0 : shP k = 0 := by unfold shP; rw [shOut k h]
    have hq0 : shH k = 0 := by unfold shH; rw [shOut k h]
    rw [hw0, hp0, hq0]
    clear hw0 hp0 hq0 hT
    have hk24 : decide (24 < (k : Int)) = true := decide_eq_true q29_
    have hx := blk_new w (.cells #[.string ⟨#[]⟩, .int .i64 0, .int .i64 0] 111)
    have HX := Aside0.mk hx
    clear hx
    go_enter Tryd.func75, Tryd.ntmps75
    go_wp2
    have hb1 := HX.out
    refine bodyPost_ret (v := .tuple #[.agg #[.string ⟨#[]⟩, .int .i64 0, .int .i64 0], .bool false]) ?hr rfl ⟨rfl, ?_⟩
    case hr => exact results_ct (p := 2) (u := 3) q28_ _ _ w.heap.size 111 #[.string ⟨#[]⟩, .int .i64 0, .int .i64 0] (0, 0) _ rfl hb1 Tryd.underlying111 rfl q28_
    exact below_alloc (Below.refl _ _) _
end Go.Proofs.YtjopdafckhkmmaaDoor.MBS
