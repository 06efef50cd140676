/- Functions of the program as Lean functions, and of each a proof that the Go code comes to just its answers. Laid for this claim by wip/drive.py of this repo (our driver over the kit's printing program); no text of print.sh. No condition. -/
import Derived.Test.YtjapfakpfoeaiaaCBlastRunsMBlastRunsx0
import Derived.Test.YtjapfakpfoeaiaaCBlastRunsMBlastRunsx10
namespace Go.Proofs.Ytjapfakpfoeaiaa.MBlastRuns
open Go.Proofs.Ytjapfakpfoeaiaa.Zed Go.RowKit Go.Proofs.YtjapfakpfoeaiaaW.PrintWords Go.Proofs.YtjapfakpfoeaiaaW.PrintLast Go.Proofs.YtjapfakpfoeaiaaW.PrintMore
attribute [local go_sem] max2_int min2_int max_two min_two max_three min_three max_four min_four   -- for this text's walks alone
set_option linter.unusedVariables false
set_option linter.unusedSimpArgs false

/-! ### retargetref04_Check: function 17 -/
mutual
def retargetref04_Check.j0 : Nat → Bool → List (S52) → List (S54) → List Int → Option (Int)
 | 0, _, _, _, _ => none
 | k + 1, x24, x149000, x149001, x149002 => if x24 = true then (some 4) else (retargetref04_Check.l0 k 0 x149000 x149001 x149002)
def retargetref04_Check.l0 : Nat → Int → List (S52) → List (S54) → List Int → Option (Int)
 | 0, _, _, _, _ => none
 | k + 1, x3, x149000, x149001, x149002 => if x3 < (x149000.length : Int) then (if 0 ≤ x3 then ((retargetref02_Variable.f k ((rd_T52 x149000 x3).f0)).bind fun t151 => (if t151 = true then (if ((rd_T52 x149000 x3).f1) < 0 then (retargetref04_Check.j2 k x3 true x149000 x149001 x149002 ((rd_T52 x149000 x3).f0) ((rd_T52 x149000 x3).f1)) else (retargetref04_Check.j2 k x3 (decide (((rd_T52 x149000 x3).f1) > 63)) x149000 x149001 x149002 ((rd_T52 x149000 x3).f0) ((rd_T52 x149000 x3).f1))) else (retargetref04_Check.j2 k x3 true x149000 x149001 x149002 ((rd_T52 x149000 x3).f0) ((rd_T52 x149000 x3).f1)))) else (none)) else (retargetref04_Check.l1 k 0 x149000 x149001 x149002)
def retargetref04_Check.j2 : Nat → Int → Bool → List (S52) → List (S54) → List Int → ByteArray → Int → Option (Int)
 | 0, _, _, _, _, _, _, _ => none
 | k + 1, x3, x50, x149000, x149001, x149002, x151000, x151001 => if x50 = true then (some 8) else (if x3 > 0 then (if 0 ≤ (wrap64 (x3 - 1)) then (if (wrap64 (x3 - 1)) < (x149000.length : Int) then (if (Op.bytesLess x151000.toList (((rd_T52 x149000 (wrap64 (x3 - 1))).f0).toList)) = true then (some 8) else (if ((rd_T52 x149000 (wrap64 (x3 - 1))).f0).toList = x151000.toList then (if ((rd_T52 x149000 (wrap64 (x3 - 1))).f1) ≥ x151001 then (some 8) else (retargetref04_Check.l0 k (wrap64 (x3 + 1)) x149000 x149001 x149002)) else (retargetref04_Check.l0 k (wrap64 (x3 + 1)) x149000 x149001 x149002))) else (none)) else (none)) else (retargetref04_Check.l0 k (wrap64 (x3 + 1)) x149000 x149001 x149002))
def retargetref04_Check.l1 : Nat → Int → List (S52) → List (S54) → List Int → Option (Int)
 | 0, _, _, _, _ => none
 | k + 1, x5, x149000, x149001, x149002 => if x5 < (x149001.length : Int) then (if 0 ≤ x5 then (if ((rd_T54 x149001 x5).f0) < 0 then (some 8) else (if ((rd_T54 x149001 x5).f0) ≥ (wrap64 (2 * (wrap64 ((wrap64 (1 + (x149000.length : Int))) + x5)))) then (some 8) else (if ((rd_T54 x149001 x5).f1) < 0 then (some 8) else (if ((rd_T54 x149001 x5).f1) ≥ (wrap64 (2 * (wrap64 ((wrap64 (1 + (x149000.length : Int))) + x5)))) then (some 8) else (retargetref04_Check.l1 k (wrap64 (x5 + 1)) x149000 x149001 x149002))))) else (none)) else (retargetref04_Check.l2 k 0 x149000 x149001 x149002)
def retargetref04_Check.l2 : Nat → Int → List (S52) → List (S54) → List Int → Option (Int)
 | 0, _, _, _, _ => none
 | k + 1, x8, x149000, x149001, x149002 => if x8 < (x149002.length : Int) then (if 0 ≤ x8 then (if (rd x149002 x8) < 0 then (some 8) else (if (rd x149002 x8) ≥ (wrap64 (2 * (wrap64 ((wrap64 (1 + (x149000.length : Int))) + (x149001.length : Int))))) then (some 8) else (retargetref04_Check.l2 k (wrap64 (x8 + 1)) x149000 x149001 x149002))) else (none)) else (some 0)
end
def retargetref04_Check.f (k : Nat) (l0_0 : List (S52)) (l0_1 : List (S54)) (l0_2 : List Int) : Option (Int) := if (l0_0.length : Int) > 512 then (retargetref04_Check.j0 k true l0_0 l0_1 l0_2) else (if (l0_1.length : Int) > 100000 then (retargetref04_Check.j0 k true l0_0 l0_1 l0_2) else (retargetref04_Check.j0 k (decide ((l0_2.length : Int) > 64)) l0_0 l0_1 l0_2))
theorem retargetref04_Check.mono_l : ∀ k, (∀ y0 y1 y2 y3, LeO (retargetref04_Check.j0 k y0 y1 y2 y3) (retargetref04_Check.j0 (k + 1) y0 y1 y2 y3)) ∧ (∀ y0 y1 y2 y3, LeO (retargetref04_Check.l0 k y0 y1 y2 y3) (retargetref04_Check.l0 (k + 1) y0 y1 y2 y3)) ∧ (∀ y0 y1 y2 y3 y4 y5 y6, LeO (retargetref04_Check.j2 k y0 y1 y2 y3 y4 y5 y6) (retargetref04_Check.j2 (k + 1) y0 y1 y2 y3 y4 y5 y6)) ∧ (∀ y0 y1 y2 y3, LeO (retargetref04_Check.l1 k y0 y1 y2 y3) (retargetref04_Check.l1 (k + 1) y0 y1 y2 y3)) ∧ (∀ y0 y1 y2 y3, LeO (retargetref04_Check.l2 k y0 y1 y2 y3) (retargetref04_Check.l2 (k + 1) y0 y1 y2 y3))
 | 0 => ⟨fun _ _ _ _ r h => by simp [retargetref04_Check.j0] at h, fun _ _ _ _ r h => by simp [retargetref04_Check.l0] at h, fun _ _ _ _ _ _ _ r h => by simp [retargetref04_Check.j2] at h, fun _ _ _ _ r h => by simp [retargetref04_Check.l1] at h, fun _ _ _ _ r h => by simp [retargetref04_Check.l2] at h⟩
 | k + 1 => by
  obtain ⟨ih0, ih1, ih2, ih3, ih4⟩ := retargetref04_Check.mono_l k
  refine ⟨?_, ?_, ?_, ?_, ?_⟩
  ·intro y0 y1 y2 y3
   unfold retargetref04_Check.j0
   repeat' first
   | (with_reducible exact ih0 _ _ _ _)
   | (with_reducible exact ih1 _ _ _ _)
   | (with_reducible exact ih2 _ _ _ _ _ _ _)
   | (with_reducible exact ih3 _ _ _ _)
   | (with_reducible exact ih4 _ _ _ _)
   | (with_reducible exact retargetref02_Variable.mono _ _)
   | (with_reducible exact LeO.refl _)
   | (with_reducible exact LeO.none _)
   | (with_reducible refine LeO.ite ?_ ?_)
   | (with_reducible refine LeO.bind ?_ (fun _ => ?_))
   | exact ih0 _ _ _ _
   | exact ih1 _ _ _ _
   | exact ih2 _ _ _ _ _ _ _
   | exact ih3 _ _ _ _
   | exact ih4 _ _ _ _
   | exact retargetref02_Variable.mono _ _
   | exact LeO.none _
   | refine LeO.ite ?_ ?_
   | refine LeO.bind ?_ (fun _ => ?_)
  ·intro y0 y1 y2 y3
   unfold retargetref04_Check.l0
   repeat' first
   | (with_reducible exact ih0 _ _ _ _)
   | (with_reducible exact ih1 _ _ _ _)
   | (with_reducible exact ih2 _ _ _ _ _ _ _)
   | (with_reducible exact ih3 _ _ _ _)
   | (with_reducible exact ih4 _ _ _ _)
   | (with_reducible exact retargetref02_Variable.mono _ _)
   | (with_reducible exact LeO.refl _)
   | (with_reducible exact LeO.none _)
   | (with_reducible refine LeO.ite ?_ ?_)
   | (with_reducible refine LeO.bind ?_ (fun _ => ?_))
   | exact ih0 _ _ _ _
   | exact ih1 _ _ _ _
   | exact ih2 _ _ _ _ _ _ _
   | exact ih3 _ _ _ _
   | exact ih4 _ _ _ _
   | exact retargetref02_Variable.mono _ _
   | exact LeO.none _
   | refine LeO.ite ?_ ?_
   | refine LeO.bind ?_ (fun _ => ?_)
  ·intro y0 y1 y2 y3 y4 y5 y6
   unfold retargetref04_Check.j2
   repeat' first
   | (with_reducible exact ih0 _ _ _ _)
   | (with_reducible exact ih1 _ _ _ _)
   | (with_reducible exact ih2 _ _ _ _ _ _ _)
   | (with_reducible exact ih3 _ _ _ _)
   | (with_reducible exact ih4 _ _ _ _)
   | (with_reducible exact retargetref02_Variable.mono _ _)
   | (with_reducible exact LeO.refl _)
   | (with_reducible exact LeO.none _)
   | (with_reducible refine LeO.ite ?_ ?_)
   | (with_reducible refine LeO.bind ?_ (fun _ => ?_))
   | exact ih0 _ _ _ _
   | exact ih1 _ _ _ _
   | exact ih2 _ _ _ _ _ _ _
   | exact ih3 _ _ _ _
   | exact ih4 _ _ _ _
   | exact retargetref02_Variable.mono _ _
   | exact LeO.none _
   | refine LeO.ite ?_ ?_
   | refine LeO.bind ?_ (fun _ => ?_)
  ·intro y0 y1 y2 y3
   unfold retargetref04_Check.l1
   repeat' first
   | (with_reducible exact ih0 _ _ _ _)
   | (with_reducible exact ih1 _ _ _ _)
   | (with_reducible exact ih2 _ _ _ _ _ _ _)
   | (with_reducible exact ih3 _ _ _ _)
   | (with_reducible exact ih4 _ _ _ _)
   | (with_reducible exact retargetref02_Variable.mono _ _)
   | (with_reducible exact LeO.refl _)
   | (with_reducible exact LeO.none _)
   | (with_reducible refine LeO.ite ?_ ?_)
   | (with_reducible refine LeO.bind ?_ (fun _ => ?_))
   | exact ih0 _ _ _ _
   | exact ih1 _ _ _ _
   | exact ih2 _ _ _ _ _ _ _
   | exact ih3 _ _ _ _
   | exact ih4 _ _ _ _
   | exact retargetref02_Variable.mono _ _
   | exact LeO.none _
   | refine LeO.ite ?_ ?_
   | refine LeO.bind ?_ (fun _ => ?_)
  ·intro y0 y1 y2 y3
   unfold retargetref04_Check.l2
   repeat' first
   | (with_reducible exact ih0 _ _ _ _)
   | (with_reducible exact ih1 _ _ _ _)
   | (with_reducible exact ih2 _ _ _ _ _ _ _)
   | (with_reducible exact ih3 _ _ _ _)
   | (with_reducible exact ih4 _ _ _ _)
   | (with_reducible exact retargetref02_Variable.mono _ _)
   | (with_reducible exact LeO.refl _)
   | (with_reducible exact LeO.none _)
   | (with_reducible refine LeO.ite ?_ ?_)
   | (with_reducible refine LeO.bind ?_ (fun _ => ?_))
   | exact ih0 _ _ _ _
   | exact ih1 _ _ _ _
   | exact ih2 _ _ _ _ _ _ _
   | exact ih3 _ _ _ _
   | exact ih4 _ _ _ _
   | exact retargetref02_Variable.mono _ _
   | exact LeO.none _
   | refine LeO.ite ?_ ?_
   | refine LeO.bind ?_ (fun _ => ?_)
theorem retargetref04_Check.mono : ∀ a0 a1 a2 k, LeO (retargetref04_Check.f k a0 a1 a2) (retargetref04_Check.f (k + 1) a0 a1 a2) := by
 intro a0 a1 a2 k
 obtain ⟨ih0, ih1, ih2, ih3, ih4⟩ := retargetref04_Check.mono_l k
 unfold retargetref04_Check.f
 repeat' first
   | (with_reducible exact ih0 _ _ _ _)
   | (with_reducible exact ih1 _ _ _ _)
   | (with_reducible exact ih2 _ _ _ _ _ _ _)
   | (with_reducible exact ih3 _ _ _ _)
   | (with_reducible exact ih4 _ _ _ _)
   | (with_reducible exact retargetref02_Variable.mono _ _)
   | (with_reducible exact LeO.refl _)
   | (with_reducible exact LeO.none _)
   | (with_reducible refine LeO.ite ?_ ?_)
   | (with_reducible refine LeO.bind ?_ (fun _ => ?_))
   | exact ih0 _ _ _ _
   | exact ih1 _ _ _ _
   | exact ih2 _ _ _ _ _ _ _
   | exact ih3 _ _ _ _
   | exact ih4 _ _ _ _
   | exact retargetref02_Variable.mono _ _
   | exact LeO.none _
   | refine LeO.ite ?_ ?_
   | refine LeO.bind ?_ (fun _ => ?_)
set_option maxHeartbeats 8000000 in
set_option maxRecDepth 100000 in
theorem retargetref04_Check.calls (k : Nat) (A0_0 : Option Addr) (c0_0 : Nat) (l0_0 : List (S52)) (A0_1 : Option Addr) (c0_1 : Nat) (l0_1 : List (S54)) (A0_2 : Option Addr) (c0_2 : Nat) (l0_2 : List Int) (r : Int) (w : World) (hr0_0 : Kd.C k52 w A0_0 l0_0.length l0_0) (hc0_0 : l0_0.length ≤ c0_0) (hr0_1 : Kd.C k54 w A0_1 l0_1.length l0_1) (hc0_1 : l0_1.length ≤ c0_1) (hr0_2 : Kd.C (Kd.int .i64) w A0_2 l0_2.length l0_2) (hc0_2 : l0_2.length ≤ c0_2) (h : retargetref04_Check.f k l0_0 l0_1 l0_2 = some r) :
  Calls Try.prog 17 #[.agg #[.slice A0_0 l0_0.length c0_0, .slice A0_1 l0_1.length c0_1, .slice A0_2 l0_2.length c0_2]] w fun e w' => e = .returned (.int .i64 r) ∧ Below w.heap.size w w' := by
 have hu26 := Try.underlying26
 have hu52 := Try.underlying52
 have hu54 := Try.underlying54
 have HR0_0 := Aside0.mk hr0_0
 have HC0_0 := Aside0.mk hc0_0
 clear hr0_0 hc0_0
 have HR0_1 := Aside0.mk hr0_1
 have HC0_1 := Aside0.mk hc0_1
 clear hr0_1 hc0_1
 have HR0_2 := Aside0.mk hr0_2
 have HC0_2 := Aside0.mk hc0_2
 clear hr0_2 hc0_2
 have HB := Aside0.mk (Below.refl w.heap.size w)
 have H : (if (l0_0.length : Int) > 512 then (retargetref04_Check.j0 k true l0_0 l0_1 l0_2) else (if (l0_1.length : Int) > 100000 then (retargetref04_Check.j0 k true l0_0 l0_1 l0_2) else (retargetref04_Check.j0 k (decide ((l0_2.length : Int) > 64)) l0_0 l0_1 l0_2))) = some r := h
 clear h
 have HC2 := Aside0.mk H
 clear H
 go_enter Try.func17, Try.ntmps17
 go_upto_region 1 with (first | ((with_reducible refine gate_dst (N := 1) rfl ?_); (try (refine gate_guard (by rfl) ?_; dsimp only)); refine box_event ?hg (N := 1) ?hd (cs := #[.slice A0_0 l0_0.length c0_0, .slice A0_1 l0_1.length c0_1, .slice A0_2 l0_2.length c0_2]) (t := 26) ?hr ?_; (case hd => rfl); (case hg => rfl); (case hr => first | (go_simp; done) | (go_simp; rfl)); intro gb148 hg w3 hbox hb; have n0_ := Aside0.mk (below_step q0_ hb); have n1_ := Aside0.mk (hbox); have n2_ := Aside0.mk ((by rw [hg]; exact (below_size q0_) : w.heap.size ≤ gb148)); have n3_ := Aside0.mk ((by rw [hg]; exact (below_size q0_) : w.heap.size ≤ gb148)); clear HB; have HB := n0_; have BK148 := n1_; have GW148 := n2_; have GE148 := n3_; clear n0_ n1_ n2_ n3_; clear hb hbox hg))
 repeat (go_quiet (first | ((with_reducible refine gate_dst (N := 1) rfl ?_); (try (refine gate_guard (by rfl) ?_; dsimp only)); refine box_event ?hg (N := 1) ?hd (cs := #[.slice A0_0 l0_0.length c0_0, .slice A0_1 l0_1.length c0_1, .slice A0_2 l0_2.length c0_2]) (t := 26) ?hr ?_; (case hd => rfl); (case hg => rfl); (case hr => first | (go_simp; done) | (go_simp; rfl)); intro gb148 hg w3 hbox hb; have n0_ := Aside0.mk (below_step q0_ hb); have n1_ := Aside0.mk (hbox); have n2_ := Aside0.mk ((by rw [hg]; exact (below_size q0_) : w.heap.size ≤ gb148)); have n3_ := Aside0.mk ((by rw [hg]; exact (below_size q0_) : w.heap.size ≤ gb148)); clear HB; have HB := n0_; have BK148 := n1_; have GW148 := n2_; have GE148 := n3_; clear n0_ n1_ n2_ n3_; clear hb hbox hg)); go_upto_region 1 with (first | ((with_reducible refine gate_dst (N := 1) rfl ?_); (try (refine gate_guard (by rfl) ?_; dsimp only)); refine box_event ?hg (N := 1) ?hd (cs := #[.slice A0_0 l0_0.length c0_0, .slice A0_1 l0_1.length c0_1, .slice A0_2 l0_2.length c0_2]) (t := 26) ?hr ?_; (case hd => rfl); (case hg => rfl); (case hr => first | (go_simp; done) | (go_simp; rfl)); intro gb148 hg w3 hbox hb; have n0_ := Aside0.mk (below_step q0_ hb); have n1_ := Aside0.mk (hbox); have n2_ := Aside0.mk ((by rw [hg]; exact (below_size q0_) : w.heap.size ≤ gb148)); have n3_ := Aside0.mk ((by rw [hg]; exact (below_size q0_) : w.heap.size ≤ gb148)); clear HB; have HB := n0_; have BK148 := n1_; have GW148 := n2_; have GE148 := n3_; clear n0_ n1_ n2_ n3_; clear hb hbox hg)))
 (try simp only [Act.put, List.setIfInBounds_toArray, List.set_cons_zero, List.set_cons_succ])
 go_cut [24] (fun v24 wc => ∃ (kq : Nat) (x24_1 : Bool), v24 = .bool x24_1 ∧ Aside0 (retargetref04_Check.j0 kq x24_1 l0_0 l0_1 l0_2 = some r) ∧ Aside0 (kq ≤ k) ∧ Aside0 (wc.heap[gb148]? = some (.cells #[(.slice A0_0 l0_0.length c0_0), (.slice A0_1 l0_1.length c0_1), (.slice A0_2 l0_2.length c0_2)] 26 (0, 0))) ∧ Aside0 (Below w.heap.size w wc))
 case first =>
  have H := HC2.out
  clear HC2
  by_cases c4 : (l0_0.length : Int) > 512
  ·rw [if_pos c4] at H
   have c4b0 : decide (512 < (l0_0.length : Int)) = true := decide_eq_true c4
   have c4b1 : decide (512 < l0_0.length) = true := decide_eq_true (by omega)
   clear c4
   (first | rw [c4b0] | (simp only [i64_w, i32_w]; rw [c4b0]) | skip)
   have H' := Aside0.mk H
   clear H
   have hcz5_0 : w3.cell? ⟨gb148, 0, none⟩ = some (.slice A0_0 l0_0.length c0_0) := (blk_cell BK148.out 0).trans rfl
   have hcz5_1 : w3.cell? ⟨gb148, 1, none⟩ = some (.slice A0_1 l0_1.length c0_1) := (blk_cell BK148.out 1).trans rfl
   have hcz5_2 : w3.cell? ⟨gb148, 2, none⟩ = some (.slice A0_2 l0_2.length c0_2) := (blk_cell BK148.out 2).trans rfl
   have hfz5_0 := blk_frozen BK148.out 0
   have hfz5_1 := blk_frozen BK148.out 1
   have hfz5_2 := blk_frozen BK148.out 2
   go_wp2
   repeat (go_quiet (fail); try go_wp2)
   go_meet
   case rel => exact ⟨_, (true), q13_, H', ⟨by first | omega | exact Nat.le_refl _⟩, ⟨by (with_reducible repeat (first | refine blk_drewN ?_ _ | refine blk_drew ?_ | refine blk_alloc ?_ _)); exact BK148.out⟩, ⟨by repeat (first | (with_reducible first | exact HB.out | apply below_alloc | apply pw_below_drewN | apply below_drew1 | refine below_set ?_ GE148.out) | exact HB.out)⟩⟩
  ·rw [if_neg c4] at H
   have c4b0 : decide (512 < (l0_0.length : Int)) = false := decide_eq_false c4
   have c4b1 : decide (512 < l0_0.length) = false := decide_eq_false (by omega)
   clear c4
   (first | rw [c4b0] | (simp only [i64_w, i32_w]; rw [c4b0]) | skip)
   by_cases c6 : (l0_1.length : Int) > 100000
   ·rw [if_pos c6] at H
    have c6b0 : decide (100000 < (l0_1.length : Int)) = true := decide_eq_true c6
    have c6b1 : decide (100000 < l0_1.length) = true := decide_eq_true (by omega)
    clear c6
    have H' := Aside0.mk H
    clear H
    have hcz7_0 : w3.cell? ⟨gb148, 0, none⟩ = some (.slice A0_0 l0_0.length c0_0) := (blk_cell BK148.out 0).trans rfl
    have hcz7_1 : w3.cell? ⟨gb148, 1, none⟩ = some (.slice A0_1 l0_1.length c0_1) := (blk_cell BK148.out 1).trans rfl
    have hcz7_2 : w3.cell? ⟨gb148, 2, none⟩ = some (.slice A0_2 l0_2.length c0_2) := (blk_cell BK148.out 2).trans rfl
    have hfz7_0 := blk_frozen BK148.out 0
    have hfz7_1 := blk_frozen BK148.out 1
    have hfz7_2 := blk_frozen BK148.out 2
    go_wp2
    repeat (go_quiet (fail); try go_wp2)
    go_meet
    case rel => exact ⟨_, (true), q13_, H', ⟨by first | omega | exact Nat.le_refl _⟩, ⟨by (with_reducible repeat (first | refine blk_drewN ?_ _ | refine blk_drew ?_ | refine blk_alloc ?_ _)); exact BK148.out⟩, ⟨by repeat (first | (with_reducible first | exact HB.out | apply below_alloc | apply pw_below_drewN | apply below_drew1 | refine below_set ?_ GE148.out) | exact HB.out)⟩⟩
   ·rw [if_neg c6] at H
    have c6b0 : decide (100000 < (l0_1.length : Int)) = false := decide_eq_false c6
    have c6b1 : decide (100000 < l0_1.length) = false := decide_eq_false (by omega)
    clear c6
    have H' := Aside0.mk H
    clear H
    have hcz8_0 : w3.cell? ⟨gb148, 0, none⟩ = some (.slice A0_0 l0_0.length c0_0) := (blk_cell BK148.out 0).trans rfl
    have hcz8_1 : w3.cell? ⟨gb148, 1, none⟩ = some (.slice A0_1 l0_1.length c0_1) := (blk_cell BK148.out 1).trans rfl
    have hcz8_2 : w3.cell? ⟨gb148, 2, none⟩ = some (.slice A0_2 l0_2.length c0_2) := (blk_cell BK148.out 2).trans rfl
    have hfz8_0 := blk_frozen BK148.out 0
    have hfz8_1 := blk_frozen BK148.out 1
    have hfz8_2 := blk_frozen BK148.out 2
    go_wp2
    repeat (go_quiet (fail); try go_wp2)
    go_meet
    case rel => exact ⟨_, (decide ((l0_2.length : Int) > 64)), q13_, H', ⟨by first | omega | exact Nat.le_refl _⟩, ⟨by (with_reducible repeat (first | refine blk_drewN ?_ _ | refine blk_drew ?_ | refine blk_alloc ?_ _)); exact BK148.out⟩, ⟨by repeat (first | (with_reducible first | exact HB.out | apply below_alloc | apply pw_below_drewN | apply below_drew1 | refine below_set ?_ GE148.out) | exact HB.out)⟩⟩
 case rest =>
  clear HC2
  try clear c1
  try clear p2
  try clear c4
  try clear c4b0
  try clear c4b1
  try clear c6
  try clear c6b0
  try clear c6b1
  try clear hcz5_0
  try clear hcz5_1
  try clear hcz5_2
  try clear hcz7_0
  try clear hcz7_1
  try clear hcz7_2
  try clear hcz8_0
  try clear hcz8_1
  try clear hcz8_2
  try clear hfz5_0
  try clear hfz5_1
  try clear hfz5_2
  try clear hfz7_0
  try clear hfz7_1
  try clear hfz7_2
  try clear hfz8_0
  try clear hfz8_1
  try clear hfz8_2
  obtain ⟨kq, x24_1, rfl, HA, HJ1, BK148, HB⟩ := hcut
  cases kq with
  | zero => exact absurd HA.out (by simp [retargetref04_Check.j0])
  | succ kj1 =>
   have H := HA.out
   clear HA
   simp only [retargetref04_Check.j0] at H
   by_cases c9 : x24_1 = true
   ·subst c9
    have H1 : (some 4) = some r := by rw [if_pos rfl] at H; exact H
    clear H
    have H := H1
    clear H1
    obtain rfl := Option.some.inj H
    go_wp2
    repeat (go_quiet (fail); try go_wp2)
    go_ret
    exact ⟨by first | rfl | (simp [errW_none, errW_some] <;> rfl) | (simp [*, errW_none, errW_some] <;> rfl), by repeat (first | (with_reducible first | exact HB.out | apply below_alloc | apply pw_below_drewN | apply below_drew1 | refine below_set ?_ GE148.out) | exact HB.out)⟩
   ·replace c9 := Bool.eq_false_iff.mpr c9
    subst c9
    have H1 : (retargetref04_Check.l0 kj1 0 l0_0 l0_1 l0_2) = some r := by rw [if_neg (show ¬ (false = true) by decide)] at H; exact H
    clear H
    have H := H1
    clear H1
    have H' := Aside0.mk H
    clear H
    go_wp2
    repeat (go_quiet (fail); try go_wp2)
    go_loopg [3] kj1 (fun kq v3 w' => ∃ (x3_2 : Int), v3 = .int .i64 x3_2 ∧ Aside0 (retargetref04_Check.l0 kq x3_2 l0_0 l0_1 l0_2 = some r) ∧ Aside0 (kq ≤ kj1) ∧ Aside0 (w'.heap[gb148]? = some (.cells #[(.slice A0_0 l0_0.length c0_0), (.slice A0_1 l0_1.length c0_1), (.slice A0_2 l0_2.length c0_2)] 26 (0, 0))) ∧ Aside0 (Below w.heap.size w w'))
    case atStart => exact ⟨(0), q13_, H', ⟨Nat.le_refl _⟩, ⟨by (with_reducible repeat (first | refine blk_drewN ?_ _ | refine blk_drew ?_ | refine blk_alloc ?_ _)); exact BK148.out⟩, ⟨by repeat (first | (with_reducible first | exact HB.out | apply below_alloc | apply pw_below_drewN | apply below_drew1 | refine below_set ?_ GE148.out) | exact HB.out)⟩⟩
    case round =>
     clear H'
     try clear c1
     try clear p2
     try clear c4
     try clear c4b0
     try clear c4b1
     try clear c6
     try clear c6b0
     try clear c6b1
     try clear c9
     try clear hcz5_0
     try clear hcz5_1
     try clear hcz5_2
     try clear hcz7_0
     try clear hcz7_1
     try clear hcz7_2
     try clear hcz8_0
     try clear hcz8_1
     try clear hcz8_2
     try clear hfz5_0
     try clear hfz5_1
     try clear hfz5_2
     try clear hfz7_0
     try clear hfz7_1
     try clear hfz7_2
     try clear hfz8_0
     try clear hfz8_1
     try clear hfz8_2
     try clear p2
     obtain ⟨x3_2, rfl, HA, HK2, BK148, HB⟩ := hrel
     cases gk with
     | zero => exact absurd HA.out (by simp [retargetref04_Check.l0])
     | succ k2 =>
      have H := HA.out
      clear HA
      simp only [retargetref04_Check.l0] at H
      by_cases c10 : x3_2 < (l0_0.length : Int)
      ·rw [if_pos c10] at H
       have c10b0 : decide (x3_2 < (l0_0.length : Int)) = true := decide_eq_true c10
       clear c10
       by_cases c11 : 0 ≤ x3_2
       ·rw [if_pos c11] at H
        have c11b0 : decide (0 ≤ x3_2) = true := decide_eq_true c11
        clear c11
        have HC12 := Aside0.mk H
        clear H
        have hcz13_0 : wr.cell? ⟨gb148, 0, none⟩ = some (.slice A0_0 l0_0.length c0_0) := (blk_cell BK148.out 0).trans rfl
        have hcz13_1 : wr.cell? ⟨gb148, 1, none⟩ = some (.slice A0_1 l0_1.length c0_1) := (blk_cell BK148.out 1).trans rfl
        have hcz13_2 : wr.cell? ⟨gb148, 2, none⟩ = some (.slice A0_2 l0_2.length c0_2) := (blk_cell BK148.out 2).trans rfl
        have hfz13_0 := blk_frozen BK148.out 0
        have hfz13_1 := blk_frozen BK148.out 1
        have hfz13_2 := blk_frozen BK148.out 2
        have p149 : 0 ≤ (x3_2 : Int) := of_decide_eq_true q1_
        have q149 : x3_2 < (l0_0.length : Int) := of_decide_eq_true q1_
        obtain ⟨ad149, e149, hx149_0, hx149_1⟩ := at_T52 HR0_0.out x3_2 p149 q149
        cases e149
        replace hx149_0 := (HB.out.cell (World.block_lt_of_cell? w _ hx149_0)).trans hx149_0
        replace hx149_1 := (HB.out.cell (World.block_lt_of_cell? w _ hx149_1)).trans hx149_1
        replace p149 := eq_true p149
        replace q149 := eq_true q149
        go_upto_region 7 with (first | ((with_reducible refine gate_dst (N := 4) rfl ?_); (try (refine gate_guard (by rfl) ?_; dsimp only)); refine box_event ?hg (N := 4) ?hd (cs := #[.string (⟨#[]⟩ : ByteArray), .int .i64 0]) (t := 52) ?hr ?_; (case hd => rfl); (case hg => rfl); (case hr => first | (go_simp; done) | (go_simp; rfl)); intro gb150 hg w14 hbox hb; have n0_ := Aside0.mk (blk_below (g := gb148) (o := .cells #[.slice (some ad149) l0_0.length c0_0, .slice A0_1 l0_1.length c0_1, .slice A0_2 l0_2.length c0_2] 26 (0, 0)) q10_ hb); have n1_ := Aside0.mk (below_step q6_ hb); have n2_ := Aside0.mk (hbox); have n3_ := Aside0.mk ((by rw [hg]; exact (below_size q6_) : w.heap.size ≤ gb150)); have n4_ := Aside0.mk ((by rw [hg]; exact (below_size q6_) : w.heap.size ≤ gb150)); have n5_ := Aside0.mk ((by rw [hg]; exact Nat.ne_of_lt (blk_lt (g := gb148) (o := .cells #[.slice (some ad149) l0_0.length c0_0, .slice A0_1 l0_1.length c0_1, .slice A0_2 l0_2.length c0_2] 26 (0, 0)) q10_) : gb148 ≠ gb150)); have n6_ := Aside0.mk ((by rw [hg]; exact Nat.ne_of_gt (blk_lt (g := gb148) (o := .cells #[.slice (some ad149) l0_0.length c0_0, .slice A0_1 l0_1.length c0_1, .slice A0_2 l0_2.length c0_2] 26 (0, 0)) q10_) : gb150 ≠ gb148)); clear BK148; clear HB; have BK148 := n0_; have HB := n1_; have BK150 := n2_; have GW150 := n3_; have GE150 := n4_; have NB148_150 := n5_; have NB150_148 := n6_; clear n0_ n1_ n2_ n3_ n4_ n5_ n6_; clear hb hbox hg; have hnb15 := NB150_148.out; have hnc15 := NB148_150.out; have hcz16_0 : w14.cell? ⟨gb150, 0, none⟩ = some (.string (⟨#[]⟩ : ByteArray)) := (blk_cell BK150.out 0).trans rfl; have hcz16_1 : w14.cell? ⟨gb150, 1, none⟩ = some (.int .i64 0) := (blk_cell BK150.out 1).trans rfl; have hfz16_0 := blk_frozen BK150.out 0; have hfz16_1 := blk_frozen BK150.out 1))
        repeat (go_quiet (first | ((with_reducible refine gate_dst (N := 4) rfl ?_); (try (refine gate_guard (by rfl) ?_; dsimp only)); refine box_event ?hg (N := 4) ?hd (cs := #[.string (⟨#[]⟩ : ByteArray), .int .i64 0]) (t := 52) ?hr ?_; (case hd => rfl); (case hg => rfl); (case hr => first | (go_simp; done) | (go_simp; rfl)); intro gb150 hg w14 hbox hb; have n0_ := Aside0.mk (blk_below (g := gb148) (o := .cells #[.slice (some ad149) l0_0.length c0_0, .slice A0_1 l0_1.length c0_1, .slice A0_2 l0_2.length c0_2] 26 (0, 0)) q10_ hb); have n1_ := Aside0.mk (below_step q6_ hb); have n2_ := Aside0.mk (hbox); have n3_ := Aside0.mk ((by rw [hg]; exact (below_size q6_) : w.heap.size ≤ gb150)); have n4_ := Aside0.mk ((by rw [hg]; exact (below_size q6_) : w.heap.size ≤ gb150)); have n5_ := Aside0.mk ((by rw [hg]; exact Nat.ne_of_lt (blk_lt (g := gb148) (o := .cells #[.slice (some ad149) l0_0.length c0_0, .slice A0_1 l0_1.length c0_1, .slice A0_2 l0_2.length c0_2] 26 (0, 0)) q10_) : gb148 ≠ gb150)); have n6_ := Aside0.mk ((by rw [hg]; exact Nat.ne_of_gt (blk_lt (g := gb148) (o := .cells #[.slice (some ad149) l0_0.length c0_0, .slice A0_1 l0_1.length c0_1, .slice A0_2 l0_2.length c0_2] 26 (0, 0)) q10_) : gb150 ≠ gb148)); clear BK148; clear HB; have BK148 := n0_; have HB := n1_; have BK150 := n2_; have GW150 := n3_; have GE150 := n4_; have NB148_150 := n5_; have NB150_148 := n6_; clear n0_ n1_ n2_ n3_ n4_ n5_ n6_; clear hb hbox hg; have hnb15 := NB150_148.out; have hnc15 := NB148_150.out; have hcz16_0 : w14.cell? ⟨gb150, 0, none⟩ = some (.string (⟨#[]⟩ : ByteArray)) := (blk_cell BK150.out 0).trans rfl; have hcz16_1 : w14.cell? ⟨gb150, 1, none⟩ = some (.int .i64 0) := (blk_cell BK150.out 1).trans rfl; have hfz16_0 := blk_frozen BK150.out 0; have hfz16_1 := blk_frozen BK150.out 1)); go_upto_region 7 with (first | ((with_reducible refine gate_dst (N := 4) rfl ?_); (try (refine gate_guard (by rfl) ?_; dsimp only)); refine box_event ?hg (N := 4) ?hd (cs := #[.string (⟨#[]⟩ : ByteArray), .int .i64 0]) (t := 52) ?hr ?_; (case hd => rfl); (case hg => rfl); (case hr => first | (go_simp; done) | (go_simp; rfl)); intro gb150 hg w14 hbox hb; have n0_ := Aside0.mk (blk_below (g := gb148) (o := .cells #[.slice (some ad149) l0_0.length c0_0, .slice A0_1 l0_1.length c0_1, .slice A0_2 l0_2.length c0_2] 26 (0, 0)) q10_ hb); have n1_ := Aside0.mk (below_step q6_ hb); have n2_ := Aside0.mk (hbox); have n3_ := Aside0.mk ((by rw [hg]; exact (below_size q6_) : w.heap.size ≤ gb150)); have n4_ := Aside0.mk ((by rw [hg]; exact (below_size q6_) : w.heap.size ≤ gb150)); have n5_ := Aside0.mk ((by rw [hg]; exact Nat.ne_of_lt (blk_lt (g := gb148) (o := .cells #[.slice (some ad149) l0_0.length c0_0, .slice A0_1 l0_1.length c0_1, .slice A0_2 l0_2.length c0_2] 26 (0, 0)) q10_) : gb148 ≠ gb150)); have n6_ := Aside0.mk ((by rw [hg]; exact Nat.ne_of_gt (blk_lt (g := gb148) (o := .cells #[.slice (some ad149) l0_0.length c0_0, .slice A0_1 l0_1.length c0_1, .slice A0_2 l0_2.length c0_2] 26 (0, 0)) q10_) : gb150 ≠ gb148)); clear BK148; clear HB; have BK148 := n0_; have HB := n1_; have BK150 := n2_; have GW150 := n3_; have GE150 := n4_; have NB148_150 := n5_; have NB150_148 := n6_; clear n0_ n1_ n2_ n3_ n4_ n5_ n6_; clear hb hbox hg; have hnb15 := NB150_148.out; have hnc15 := NB148_150.out; have hcz16_0 : w14.cell? ⟨gb150, 0, none⟩ = some (.string (⟨#[]⟩ : ByteArray)) := (blk_cell BK150.out 0).trans rfl; have hcz16_1 : w14.cell? ⟨gb150, 1, none⟩ = some (.int .i64 0) := (blk_cell BK150.out 1).trans rfl; have hfz16_0 := blk_frozen BK150.out 0; have hfz16_1 := blk_frozen BK150.out 1)))
        (try simp only [Act.put, List.setIfInBounds_toArray, List.set_cons_zero, List.set_cons_succ])
        go_cut [50] (fun v50 wc => ∃ (kq : Nat) (x50_11 : Bool), v50 = .bool x50_11 ∧ Aside0 (retargetref04_Check.j2 kq x3_2 x50_11 l0_0 l0_1 l0_2 ((rd_T52 l0_0 x3_2).f0) ((rd_T52 l0_0 x3_2).f1) = some r) ∧ Aside0 (kq ≤ k2) ∧ Aside0 (wc.heap[gb148]? = some (.cells #[(.slice (some ad149) l0_0.length c0_0), (.slice A0_1 l0_1.length c0_1), (.slice A0_2 l0_2.length c0_2)] 26 (0, 0))) ∧ Aside0 (wc.heap[gb150]? = some (.cells #[.string ((rd_T52 l0_0 x3_2).f0), .int .i64 ((rd_T52 l0_0 x3_2).f1)] 52 (0, 0))) ∧ Aside0 (Below w.heap.size w wc))
        case first =>
         have H := HC12.out
         clear HC12
         replace H := Option.bind_eq_some_iff.mp H
         obtain ⟨t151, A170, H⟩ := H
         replace H : (if t151 = true then (if ((rd_T52 l0_0 x3_2).f1) < 0 then (retargetref04_Check.j2 k2 x3_2 true l0_0 l0_1 l0_2 ((rd_T52 l0_0 x3_2).f0) ((rd_T52 l0_0 x3_2).f1)) else (retargetref04_Check.j2 k2 x3_2 (decide (((rd_T52 l0_0 x3_2).f1) > 63)) l0_0 l0_1 l0_2 ((rd_T52 l0_0 x3_2).f0) ((rd_T52 l0_0 x3_2).f1))) else (retargetref04_Check.j2 k2 x3_2 true l0_0 l0_1 l0_2 ((rd_T52 l0_0 x3_2).f0) ((rd_T52 l0_0 x3_2).f1))) = some r := H
         have A17 := Aside0.mk A170
         clear A170
         by_cases c18 : t151 = true
         ·subst c18
          have H1 : (if ((rd_T52 l0_0 x3_2).f1) < 0 then (retargetref04_Check.j2 k2 x3_2 true l0_0 l0_1 l0_2 ((rd_T52 l0_0 x3_2).f0) ((rd_T52 l0_0 x3_2).f1)) else (retargetref04_Check.j2 k2 x3_2 (decide (((rd_T52 l0_0 x3_2).f1) > 63)) l0_0 l0_1 l0_2 ((rd_T52 l0_0 x3_2).f0) ((rd_T52 l0_0 x3_2).f1))) = some r := by rw [if_pos rfl] at H; exact H
          clear H
          have H := H1
          clear H1
          by_cases c19 : ((rd_T52 l0_0 x3_2).f1) < 0
          ·rw [if_pos c19] at H
           have c19b0 : decide (((rd_T52 l0_0 x3_2).f1) < 0) = true := decide_eq_true c19
           clear c19
           (first | rw [c19b0] | (simp only [i64_w, i32_w]; rw [c19b0]) | skip)
           have H' := Aside0.mk H
           clear H
           have hnb20 := NB150_148.out
           have hnc20 := NB148_150.out
           have hcz21_0 : w14.cell? ⟨gb150, 0, none⟩ = some (.string (⟨#[]⟩ : ByteArray)) := (blk_cell BK150.out 0).trans rfl
           have hcz21_1 : w14.cell? ⟨gb150, 1, none⟩ = some (.int .i64 0) := (blk_cell BK150.out 1).trans rfl
           have hfz21_0 := blk_frozen BK150.out 0
           have hfz21_1 := blk_frozen BK150.out 1
           go_wp2_with (first | (go_at_call 33; (with_reducible refine (retargetref02_Variable.calls k2 ((rd_T52 l0_0 x3_2).f0) true _ A17.out).mono ?_); rintro e w' ⟨rfl, ⟨nd, rfl⟩⟩; (try first | exact ⟨rfl, _, World.drewN_drewN _ _ _⟩ | exact ⟨rfl, _, Eq.trans (World.drewN_drewN _ _ _) (congrArg (World.drewN _) (Nat.add_assoc _ _ _))⟩)))
           repeat (go_quiet (first | (go_at_call 33; (with_reducible refine (retargetref02_Variable.calls k2 ((rd_T52 l0_0 x3_2).f0) true _ A17.out).mono ?_); rintro e w' ⟨rfl, ⟨nd, rfl⟩⟩; (try first | exact ⟨rfl, _, World.drewN_drewN _ _ _⟩ | exact ⟨rfl, _, Eq.trans (World.drewN_drewN _ _ _) (congrArg (World.drewN _) (Nat.add_assoc _ _ _))⟩))); try go_wp2_with (first | (go_at_call 33; (with_reducible refine (retargetref02_Variable.calls k2 ((rd_T52 l0_0 x3_2).f0) true _ A17.out).mono ?_); rintro e w' ⟨rfl, ⟨nd, rfl⟩⟩; (try first | exact ⟨rfl, _, World.drewN_drewN _ _ _⟩ | exact ⟨rfl, _, Eq.trans (World.drewN_drewN _ _ _) (congrArg (World.drewN _) (Nat.add_assoc _ _ _))⟩))))
           go_meet
           case rel => exact ⟨_, (true), q13_, H', ⟨by have := HJ1.out; have := HK2.out; first | omega | exact Nat.le_refl _⟩, ⟨by (with_reducible repeat (first | refine blk_drewN ?_ _ | refine blk_drew ?_ | refine blk_alloc ?_ _)); refine blk_far ?_ NB148_150.out _; (with_reducible repeat (first | refine blk_drewN ?_ _ | refine blk_drew ?_ | refine blk_alloc ?_ _)); refine blk_far ?_ NB148_150.out _; (with_reducible repeat (first | refine blk_drewN ?_ _ | refine blk_drew ?_ | refine blk_alloc ?_ _)); exact BK148.out⟩, ⟨by (with_reducible repeat (first | refine blk_drewN ?_ _ | refine blk_drew ?_ | refine blk_alloc ?_ _)); refine blk_put (cs := #[.string ((rd_T52 l0_0 x3_2).f0), .int .i64 0]) ?_ 1 _ rfl; (with_reducible repeat (first | refine blk_drewN ?_ _ | refine blk_drew ?_ | refine blk_alloc ?_ _)); refine blk_put (cs := #[.string (⟨#[]⟩ : ByteArray), .int .i64 0]) ?_ 0 _ rfl; (with_reducible repeat (first | refine blk_drewN ?_ _ | refine blk_drew ?_ | refine blk_alloc ?_ _)); exact BK150.out⟩, ⟨by repeat (first | (with_reducible first | exact HB.out | apply below_alloc | apply pw_below_drewN | apply below_drew1 | refine below_set ?_ GE148.out | refine below_set ?_ GE150.out) | exact HB.out)⟩⟩
          ·rw [if_neg c19] at H
           have c19b0 : decide (((rd_T52 l0_0 x3_2).f1) < 0) = false := decide_eq_false c19
           clear c19
           (first | rw [c19b0] | (simp only [i64_w, i32_w]; rw [c19b0]) | skip)
           have H' := Aside0.mk H
           clear H
           have hnb22 := NB150_148.out
           have hnc22 := NB148_150.out
           have hcz23_0 : w14.cell? ⟨gb150, 0, none⟩ = some (.string (⟨#[]⟩ : ByteArray)) := (blk_cell BK150.out 0).trans rfl
           have hcz23_1 : w14.cell? ⟨gb150, 1, none⟩ = some (.int .i64 0) := (blk_cell BK150.out 1).trans rfl
           have hfz23_0 := blk_frozen BK150.out 0
           have hfz23_1 := blk_frozen BK150.out 1
           go_wp2_with (first | (go_at_call 33; (with_reducible refine (retargetref02_Variable.calls k2 ((rd_T52 l0_0 x3_2).f0) true _ A17.out).mono ?_); rintro e w' ⟨rfl, ⟨nd, rfl⟩⟩; (try first | exact ⟨rfl, _, World.drewN_drewN _ _ _⟩ | exact ⟨rfl, _, Eq.trans (World.drewN_drewN _ _ _) (congrArg (World.drewN _) (Nat.add_assoc _ _ _))⟩)))
           repeat (go_quiet (first | (go_at_call 33; (with_reducible refine (retargetref02_Variable.calls k2 ((rd_T52 l0_0 x3_2).f0) true _ A17.out).mono ?_); rintro e w' ⟨rfl, ⟨nd, rfl⟩⟩; (try first | exact ⟨rfl, _, World.drewN_drewN _ _ _⟩ | exact ⟨rfl, _, Eq.trans (World.drewN_drewN _ _ _) (congrArg (World.drewN _) (Nat.add_assoc _ _ _))⟩))); try go_wp2_with (first | (go_at_call 33; (with_reducible refine (retargetref02_Variable.calls k2 ((rd_T52 l0_0 x3_2).f0) true _ A17.out).mono ?_); rintro e w' ⟨rfl, ⟨nd, rfl⟩⟩; (try first | exact ⟨rfl, _, World.drewN_drewN _ _ _⟩ | exact ⟨rfl, _, Eq.trans (World.drewN_drewN _ _ _) (congrArg (World.drewN _) (Nat.add_assoc _ _ _))⟩))))
           go_meet
           case rel => exact ⟨_, (decide (((rd_T52 l0_0 x3_2).f1) > 63)), q13_, H', ⟨by have := HJ1.out; have := HK2.out; first | omega | exact Nat.le_refl _⟩, ⟨by (with_reducible repeat (first | refine blk_drewN ?_ _ | refine blk_drew ?_ | refine blk_alloc ?_ _)); refine blk_far ?_ NB148_150.out _; (with_reducible repeat (first | refine blk_drewN ?_ _ | refine blk_drew ?_ | refine blk_alloc ?_ _)); refine blk_far ?_ NB148_150.out _; (with_reducible repeat (first | refine blk_drewN ?_ _ | refine blk_drew ?_ | refine blk_alloc ?_ _)); exact BK148.out⟩, ⟨by (with_reducible repeat (first | refine blk_drewN ?_ _ | refine blk_drew ?_ | refine blk_alloc ?_ _)); refine blk_put (cs := #[.string ((rd_T52 l0_0 x3_2).f0), .int .i64 0]) ?_ 1 _ rfl; (with_reducible repeat (first | refine blk_drewN ?_ _ | refine blk_drew ?_ | refine blk_alloc ?_ _)); refine blk_put (cs := #[.string (⟨#[]⟩ : ByteArray), .int .i64 0]) ?_ 0 _ rfl; (with_reducible repeat (first | refine blk_drewN ?_ _ | refine blk_drew ?_ | refine blk_alloc ?_ _)); exact BK150.out⟩, ⟨by repeat (first | (with_reducible first | exact HB.out | apply below_alloc | apply pw_below_drewN | apply below_drew1 | refine below_set ?_ GE148.out | refine below_set ?_ GE150.out) | exact HB.out)⟩⟩
         ·replace c18 := Bool.eq_false_iff.mpr c18
          subst c18
          have H1 : (retargetref04_Check.j2 k2 x3_2 true l0_0 l0_1 l0_2 ((rd_T52 l0_0 x3_2).f0) ((rd_T52 l0_0 x3_2).f1)) = some r := by rw [if_neg (show ¬ (false = true) by decide)] at H; exact H
          clear H
          have H := H1
          clear H1
          have H' := Aside0.mk H
          clear H
          have hnb24 := NB150_148.out
          have hnc24 := NB148_150.out
          have hcz25_0 : w14.cell? ⟨gb150, 0, none⟩ = some (.string (⟨#[]⟩ : ByteArray)) := (blk_cell BK150.out 0).trans rfl
          have hcz25_1 : w14.cell? ⟨gb150, 1, none⟩ = some (.int .i64 0) := (blk_cell BK150.out 1).trans rfl
          have hfz25_0 := blk_frozen BK150.out 0
          have hfz25_1 := blk_frozen BK150.out 1
          go_wp2_with (first | (go_at_call 33; (with_reducible refine (retargetref02_Variable.calls k2 ((rd_T52 l0_0 x3_2).f0) false _ A17.out).mono ?_); rintro e w' ⟨rfl, ⟨nd, rfl⟩⟩; (try first | exact ⟨rfl, _, World.drewN_drewN _ _ _⟩ | exact ⟨rfl, _, Eq.trans (World.drewN_drewN _ _ _) (congrArg (World.drewN _) (Nat.add_assoc _ _ _))⟩)))
          repeat (go_quiet (first | (go_at_call 33; (with_reducible refine (retargetref02_Variable.calls k2 ((rd_T52 l0_0 x3_2).f0) false _ A17.out).mono ?_); rintro e w' ⟨rfl, ⟨nd, rfl⟩⟩; (try first | exact ⟨rfl, _, World.drewN_drewN _ _ _⟩ | exact ⟨rfl, _, Eq.trans (World.drewN_drewN _ _ _) (congrArg (World.drewN _) (Nat.add_assoc _ _ _))⟩))); try go_wp2_with (first | (go_at_call 33; (with_reducible refine (retargetref02_Variable.calls k2 ((rd_T52 l0_0 x3_2).f0) false _ A17.out).mono ?_); rintro e w' ⟨rfl, ⟨nd, rfl⟩⟩; (try first | exact ⟨rfl, _, World.drewN_drewN _ _ _⟩ | exact ⟨rfl, _, Eq.trans (World.drewN_drewN _ _ _) (congrArg (World.drewN _) (Nat.add_assoc _ _ _))⟩))))
          go_meet
          case rel => exact ⟨_, (true), q13_, H', ⟨by have := HJ1.out; have := HK2.out; first | omega | exact Nat.le_refl _⟩, ⟨by (with_reducible repeat (first | refine blk_drewN ?_ _ | refine blk_drew ?_ | refine blk_alloc ?_ _)); refine blk_far ?_ NB148_150.out _; (with_reducible repeat (first | refine blk_drewN ?_ _ | refine blk_drew ?_ | refine blk_alloc ?_ _)); refine blk_far ?_ NB148_150.out _; (with_reducible repeat (first | refine blk_drewN ?_ _ | refine blk_drew ?_ | refine blk_alloc ?_ _)); exact BK148.out⟩, ⟨by (with_reducible repeat (first | refine blk_drewN ?_ _ | refine blk_drew ?_ | refine blk_alloc ?_ _)); refine blk_put (cs := #[.string ((rd_T52 l0_0 x3_2).f0), .int .i64 0]) ?_ 1 _ rfl; (with_reducible repeat (first | refine blk_drewN ?_ _ | refine blk_drew ?_ | refine blk_alloc ?_ _)); refine blk_put (cs := #[.string (⟨#[]⟩ : ByteArray), .int .i64 0]) ?_ 0 _ rfl; (with_reducible repeat (first | refine blk_drewN ?_ _ | refine blk_drew ?_ | refine blk_alloc ?_ _)); exact BK150.out⟩, ⟨by repeat (first | (with_reducible first | exact HB.out | apply below_alloc | apply pw_below_drewN | apply below_drew1 | refine below_set ?_ GE148.out | refine below_set ?_ GE150.out) | exact HB.out)⟩⟩
        case rest =>
         clear HC12
         try clear c1
         try clear p1
         try clear q1
         try clear hx1
         try clear c2
         try clear p2
         try clear c4
         try clear c4b0
         try clear c4b1
         try clear c6
         try clear c6b0
         try clear c6b1
         try clear c9
         try clear c10
         try clear c10b0
         try clear c11
         try clear c11b0
         try clear p14
         try clear q14
         try clear hx14
         try clear c15
         try clear c17
         try clear c18
         try clear c19
         try clear c19b0
         try clear c20
         try clear c22
         try clear c24
         try clear hcz13_0
         try clear hcz13_1
         try clear hcz13_2
         try clear hcz16_0
         try clear hcz16_1
         try clear hcz21_0
         try clear hcz21_1
         try clear hcz23_0
         try clear hcz23_1
         try clear hcz25_0
         try clear hcz25_1
         try clear hcz5_0
         try clear hcz5_1
         try clear hcz5_2
         try clear hcz7_0
         try clear hcz7_1
         try clear hcz7_2
         try clear hcz8_0
         try clear hcz8_1
         try clear hcz8_2
         try clear hfz13_0
         try clear hfz13_1
         try clear hfz13_2
         try clear hfz16_0
         try clear hfz16_1
         try clear hfz21_0
         try clear hfz21_1
         try clear hfz23_0
         try clear hfz23_1
         try clear hfz25_0
         try clear hfz25_1
         try clear hfz5_0
         try clear hfz5_1
         try clear hfz5_2
         try clear hfz7_0
         try clear hfz7_1
         try clear hfz7_2
         try clear hfz8_0
         try clear hfz8_1
         try clear hfz8_2
         try clear hx149_0
         try clear hx149_1
         try clear p149
         try clear p2
         try clear q149
         obtain ⟨kq, x50_11, rfl, HA, HJ11, BK148, BK150, HB⟩ := hcut
         cases kq with
         | zero => exact absurd HA.out (by simp [retargetref04_Check.j2])
         | succ kj11 =>
          have H := HA.out
          clear HA
          simp only [retargetref04_Check.j2] at H
          by_cases c26 : x50_11 = true
          ·subst c26
           have H1 : (some 8) = some r := by rw [if_pos rfl] at H; exact H
           clear H
           have H := H1
           clear H1
           obtain rfl := Option.some.inj H
           go_wp2
           repeat (go_quiet (fail); try go_wp2)
           go_ret
           exact ⟨by first | rfl | (simp [errW_none, errW_some] <;> rfl) | (simp [*, errW_none, errW_some] <;> rfl), by repeat (first | (with_reducible first | exact HB.out | apply below_alloc | apply pw_below_drewN | apply below_drew1 | refine below_set ?_ GE148.out | refine below_set ?_ GE150.out) | exact HB.out)⟩
          ·replace c26 := Bool.eq_false_iff.mpr c26
           subst c26
           have H1 : (if x3_2 > 0 then (if 0 ≤ (wrap64 (x3_2 - 1)) then (if (wrap64 (x3_2 - 1)) < (l0_0.length : Int) then (if (Op.bytesLess ((rd_T52 l0_0 x3_2).f0).toList (((rd_T52 l0_0 (wrap64 (x3_2 - 1))).f0).toList)) = true then (some 8) else (if ((rd_T52 l0_0 (wrap64 (x3_2 - 1))).f0).toList = ((rd_T52 l0_0 x3_2).f0).toList then (if ((rd_T52 l0_0 (wrap64 (x3_2 - 1))).f1) ≥ ((rd_T52 l0_0 x3_2).f1) then (some 8) else (retargetref04_Check.l0 kj11 (wrap64 (x3_2 + 1)) l0_0 l0_1 l0_2)) else (retargetref04_Check.l0 kj11 (wrap64 (x3_2 + 1)) l0_0 l0_1 l0_2))) else (none)) else (none)) else (retargetref04_Check.l0 kj11 (wrap64 (x3_2 + 1)) l0_0 l0_1 l0_2)) = some r := by rw [if_neg (show ¬ (false = true) by decide)] at H; exact H
           clear H
           have H := H1
           clear H1
           by_cases c27 : x3_2 > 0
           ·rw [if_pos c27] at H
            have c27b0 : decide (0 < x3_2) = true := decide_eq_true c27
            clear c27
            obtain ⟨ji28, hji28⟩ : ∃ j_ : Int, (wrap64 (x3_2 - 1)) = j_ := ⟨_, rfl⟩
            replace H : (if 0 ≤ (ji28) then (if (ji28) < (l0_0.length : Int) then (if (Op.bytesLess ((rd_T52 l0_0 x3_2).f0).toList (((rd_T52 l0_0 (ji28)).f0).toList)) = true then (some 8) else (if ((rd_T52 l0_0 (ji28)).f0).toList = ((rd_T52 l0_0 x3_2).f0).toList then (if ((rd_T52 l0_0 (ji28)).f1) ≥ ((rd_T52 l0_0 x3_2).f1) then (some 8) else (retargetref04_Check.l0 kj11 (wrap64 (x3_2 + 1)) l0_0 l0_1 l0_2)) else (retargetref04_Check.l0 kj11 (wrap64 (x3_2 + 1)) l0_0 l0_1 l0_2))) else (none)) else (none)) = some r := by first | (rw [hji28] at H; exact H) | (simp only [hji28] at H ⊢; exact H)
            have hji28w : (IntKind.i64.wrap (x3_2 - 1)) = ji28 := (i64_w _).trans hji28
            by_cases c29 : 0 ≤ (ji28)
            ·rw [if_pos c29] at H
             have c29b0 : decide (0 ≤ (ji28)) = true := decide_eq_true c29
             clear c29
             by_cases c30 : (ji28) < (l0_0.length : Int)
             ·rw [if_pos c30] at H
              have c30b0 : decide ((ji28) < (l0_0.length : Int)) = true := decide_eq_true c30
              clear c30
              by_cases c31 : (Op.bytesLess ((rd_T52 l0_0 x3_2).f0).toList (((rd_T52 l0_0 (ji28)).f0).toList)) = true
              ·rw [if_pos c31] at H
               have c31b0 : (Op.bytesLess ((rd_T52 l0_0 x3_2).f0).toList (((rd_T52 l0_0 (ji28)).f0).toList)) = true := c31
               clear c31
               obtain rfl := Option.some.inj H
               have hnb32 := NB148_150.out
               have hnc32 := NB150_148.out
               have hcz33_0 : wc.cell? ⟨gb148, 0, none⟩ = some (.slice (some ad149) l0_0.length c0_0) := (blk_cell BK148.out 0).trans rfl
               have hcz33_1 : wc.cell? ⟨gb148, 1, none⟩ = some (.slice A0_1 l0_1.length c0_1) := (blk_cell BK148.out 1).trans rfl
               have hcz33_2 : wc.cell? ⟨gb148, 2, none⟩ = some (.slice A0_2 l0_2.length c0_2) := (blk_cell BK148.out 2).trans rfl
               have hfz33_0 := blk_frozen BK148.out 0
               have hfz33_1 := blk_frozen BK148.out 1
               have hfz33_2 := blk_frozen BK148.out 2
               have p152 : 0 ≤ ((ji28) : Int) := of_decide_eq_true q1_
               have q152 : (ji28) < (l0_0.length : Int) := of_decide_eq_true q1_
               obtain ⟨ad152, e152, hx152_0, hx152_1⟩ := at_T52 HR0_0.out (ji28) p152 q152
               obtain rfl : ad149 = ad152 := (by injection e152)
               replace hx152_0 := (HB.out.cell (World.block_lt_of_cell? w _ hx152_0)).trans hx152_0
               replace hx152_1 := (HB.out.cell (World.block_lt_of_cell? w _ hx152_1)).trans hx152_1
               replace p152 := eq_true p152
               replace q152 := eq_true q152
               have hcz34_0 : wc.cell? ⟨gb150, 0, none⟩ = some (.string ((rd_T52 l0_0 x3_2).f0)) := (blk_cell BK150.out 0).trans rfl
               have hcz34_1 : wc.cell? ⟨gb150, 1, none⟩ = some (.int .i64 ((rd_T52 l0_0 x3_2).f1)) := (blk_cell BK150.out 1).trans rfl
               have hfz34_0 := blk_frozen BK150.out 0
               have hfz34_1 := blk_frozen BK150.out 1
               go_wp2
               repeat (go_quiet (fail); try go_wp2)
               go_ret
               exact ⟨by first | rfl | (simp [errW_none, errW_some] <;> rfl) | (simp only [← hji28]; first | rfl | (simp [errW_none, errW_some] <;> rfl)) | (simp [*, errW_none, errW_some] <;> rfl), by repeat (first | (with_reducible first | exact HB.out | apply below_alloc | apply pw_below_drewN | apply below_drew1 | refine below_set ?_ GE148.out | refine below_set ?_ GE150.out) | exact HB.out)⟩
              ·rw [if_neg c31] at H
               have c31b0 : (Op.bytesLess ((rd_T52 l0_0 x3_2).f0).toList (((rd_T52 l0_0 (ji28)).f0).toList)) = false := by simpa using c31
               clear c31
               by_cases c35 : ((rd_T52 l0_0 (ji28)).f0).toList = ((rd_T52 l0_0 x3_2).f0).toList
               ·rw [if_pos c35] at H
                have c35b0 : (((rd_T52 l0_0 (ji28)).f0).toList == ((rd_T52 l0_0 x3_2).f0).toList) = true := beq_iff_eq.mpr c35
                have c35b1 : (((rd_T52 l0_0 (ji28)).f0).toList != ((rd_T52 l0_0 x3_2).f0).toList) = false := bne_eq_false_iff_eq.mpr c35
                clear c35
                by_cases c36 : ((rd_T52 l0_0 (ji28)).f1) ≥ ((rd_T52 l0_0 x3_2).f1)
                ·rw [if_pos c36] at H
                 have c36b0 : decide (((rd_T52 l0_0 x3_2).f1) ≤ ((rd_T52 l0_0 (ji28)).f1)) = true := decide_eq_true c36
                 clear c36
                 obtain rfl := Option.some.inj H
                 have hnb37 := NB148_150.out
                 have hnc37 := NB150_148.out
                 have hcz38_0 : wc.cell? ⟨gb148, 0, none⟩ = some (.slice (some ad149) l0_0.length c0_0) := (blk_cell BK148.out 0).trans rfl
                 have hcz38_1 : wc.cell? ⟨gb148, 1, none⟩ = some (.slice A0_1 l0_1.length c0_1) := (blk_cell BK148.out 1).trans rfl
                 have hcz38_2 : wc.cell? ⟨gb148, 2, none⟩ = some (.slice A0_2 l0_2.length c0_2) := (blk_cell BK148.out 2).trans rfl
                 have hfz38_0 := blk_frozen BK148.out 0
                 have hfz38_1 := blk_frozen BK148.out 1
                 have hfz38_2 := blk_frozen BK148.out 2
                 have p152 : 0 ≤ ((ji28) : Int) := of_decide_eq_true q1_
                 have q152 : (ji28) < (l0_0.length : Int) := of_decide_eq_true q1_
                 obtain ⟨ad152, e152, hx152_0, hx152_1⟩ := at_T52 HR0_0.out (ji28) p152 q152
                 obtain rfl : ad149 = ad152 := (by injection e152)
                 replace hx152_0 := (HB.out.cell (World.block_lt_of_cell? w _ hx152_0)).trans hx152_0
                 replace hx152_1 := (HB.out.cell (World.block_lt_of_cell? w _ hx152_1)).trans hx152_1
                 replace p152 := eq_true p152
                 replace q152 := eq_true q152
                 have hcz39_0 : wc.cell? ⟨gb150, 0, none⟩ = some (.string ((rd_T52 l0_0 x3_2).f0)) := (blk_cell BK150.out 0).trans rfl
                 have hcz39_1 : wc.cell? ⟨gb150, 1, none⟩ = some (.int .i64 ((rd_T52 l0_0 x3_2).f1)) := (blk_cell BK150.out 1).trans rfl
                 have hfz39_0 := blk_frozen BK150.out 0
                 have hfz39_1 := blk_frozen BK150.out 1
                 have p153 : 0 ≤ ((ji28) : Int) := of_decide_eq_true q1_
                 have q153 : (ji28) < (l0_0.length : Int) := of_decide_eq_true q1_
                 obtain ⟨ad153, e153, hx153_0, hx153_1⟩ := at_T52 HR0_0.out (ji28) p153 q153
                 obtain rfl : ad149 = ad153 := (by injection e153)
                 replace hx153_0 := (HB.out.cell (World.block_lt_of_cell? w _ hx153_0)).trans hx153_0
                 replace hx153_1 := (HB.out.cell (World.block_lt_of_cell? w _ hx153_1)).trans hx153_1
                 replace p153 := eq_true p153
                 replace q153 := eq_true q153
                 have p154 : 0 ≤ ((ji28) : Int) := of_decide_eq_true q1_
                 have q154 : (ji28) < (l0_0.length : Int) := of_decide_eq_true q1_
                 obtain ⟨ad154, e154, hx154_0, hx154_1⟩ := at_T52 HR0_0.out (ji28) p154 q154
                 obtain rfl : ad149 = ad154 := (by injection e154)
                 replace hx154_0 := (HB.out.cell (World.block_lt_of_cell? w _ hx154_0)).trans hx154_0
                 replace hx154_1 := (HB.out.cell (World.block_lt_of_cell? w _ hx154_1)).trans hx154_1
                 replace p154 := eq_true p154
                 replace q154 := eq_true q154
                 go_wp2
                 repeat (go_quiet (fail); try go_wp2)
                 go_ret
                 exact ⟨by first | rfl | (simp [errW_none, errW_some] <;> rfl) | (simp only [← hji28]; first | rfl | (simp [errW_none, errW_some] <;> rfl)) | (simp [*, errW_none, errW_some] <;> rfl), by repeat (first | (with_reducible first | exact HB.out | apply below_alloc | apply pw_below_drewN | apply below_drew1 | refine below_set ?_ GE148.out | refine below_set ?_ GE150.out) | exact HB.out)⟩
                ·rw [if_neg c36] at H
                 have c36b0 : decide (((rd_T52 l0_0 x3_2).f1) ≤ ((rd_T52 l0_0 (ji28)).f1)) = false := decide_eq_false c36
                 clear c36
                 have H' := Aside0.mk H
                 clear H
                 have hnb40 := NB148_150.out
                 have hnc40 := NB150_148.out
                 have hcz41_0 : wc.cell? ⟨gb148, 0, none⟩ = some (.slice (some ad149) l0_0.length c0_0) := (blk_cell BK148.out 0).trans rfl
                 have hcz41_1 : wc.cell? ⟨gb148, 1, none⟩ = some (.slice A0_1 l0_1.length c0_1) := (blk_cell BK148.out 1).trans rfl
                 have hcz41_2 : wc.cell? ⟨gb148, 2, none⟩ = some (.slice A0_2 l0_2.length c0_2) := (blk_cell BK148.out 2).trans rfl
                 have hfz41_0 := blk_frozen BK148.out 0
                 have hfz41_1 := blk_frozen BK148.out 1
                 have hfz41_2 := blk_frozen BK148.out 2
                 have p152 : 0 ≤ ((ji28) : Int) := of_decide_eq_true q1_
                 have q152 : (ji28) < (l0_0.length : Int) := of_decide_eq_true q1_
                 obtain ⟨ad152, e152, hx152_0, hx152_1⟩ := at_T52 HR0_0.out (ji28) p152 q152
                 obtain rfl : ad149 = ad152 := (by injection e152)
                 replace hx152_0 := (HB.out.cell (World.block_lt_of_cell? w _ hx152_0)).trans hx152_0
                 replace hx152_1 := (HB.out.cell (World.block_lt_of_cell? w _ hx152_1)).trans hx152_1
                 replace p152 := eq_true p152
                 replace q152 := eq_true q152
                 have hcz42_0 : wc.cell? ⟨gb150, 0, none⟩ = some (.string ((rd_T52 l0_0 x3_2).f0)) := (blk_cell BK150.out 0).trans rfl
                 have hcz42_1 : wc.cell? ⟨gb150, 1, none⟩ = some (.int .i64 ((rd_T52 l0_0 x3_2).f1)) := (blk_cell BK150.out 1).trans rfl
                 have hfz42_0 := blk_frozen BK150.out 0
                 have hfz42_1 := blk_frozen BK150.out 1
                 have p153 : 0 ≤ ((ji28) : Int) := of_decide_eq_true q1_
                 have q153 : (ji28) < (l0_0.length : Int) := of_decide_eq_true q1_
                 obtain ⟨ad153, e153, hx153_0, hx153_1⟩ := at_T52 HR0_0.out (ji28) p153 q153
                 obtain rfl : ad149 = ad153 := (by injection e153)
                 replace hx153_0 := (HB.out.cell (World.block_lt_of_cell? w _ hx153_0)).trans hx153_0
                 replace hx153_1 := (HB.out.cell (World.block_lt_of_cell? w _ hx153_1)).trans hx153_1
                 replace p153 := eq_true p153
                 replace q153 := eq_true q153
                 have p154 : 0 ≤ ((ji28) : Int) := of_decide_eq_true q1_
                 have q154 : (ji28) < (l0_0.length : Int) := of_decide_eq_true q1_
                 obtain ⟨ad154, e154, hx154_0, hx154_1⟩ := at_T52 HR0_0.out (ji28) p154 q154
                 obtain rfl : ad149 = ad154 := (by injection e154)
                 replace hx154_0 := (HB.out.cell (World.block_lt_of_cell? w _ hx154_0)).trans hx154_0
                 replace hx154_1 := (HB.out.cell (World.block_lt_of_cell? w _ hx154_1)).trans hx154_1
                 replace p154 := eq_true p154
                 replace q154 := eq_true q154
                 go_wp2
                 repeat (go_quiet (fail); try go_wp2)
                 go_roundg kj11
                 case measure => have := HJ1.out; have := HK2.out; have := HJ11.out; omega
                 case rel => exact ⟨(wrap64 (x3_2 + 1)), q13_, H', ⟨by have := HJ1.out; have := HK2.out; have := HJ11.out; omega⟩, ⟨by (with_reducible repeat (first | refine blk_drewN ?_ _ | refine blk_drew ?_ | refine blk_alloc ?_ _)); exact BK148.out⟩, ⟨by repeat (first | (with_reducible first | exact HB.out | apply below_alloc | apply pw_below_drewN | apply below_drew1 | refine below_set ?_ GE148.out | refine below_set ?_ GE150.out) | exact HB.out)⟩⟩
               ·rw [if_neg c35] at H
                have c35b0 : (((rd_T52 l0_0 (ji28)).f0).toList == ((rd_T52 l0_0 x3_2).f0).toList) = false := beq_eq_false_iff_ne.mpr c35
                have c35b1 : (((rd_T52 l0_0 (ji28)).f0).toList != ((rd_T52 l0_0 x3_2).f0).toList) = true := bne_iff_ne.mpr c35
                have H' := Aside0.mk H
                clear H
                have hnb43 := NB148_150.out
                have hnc43 := NB150_148.out
                have hcz44_0 : wc.cell? ⟨gb148, 0, none⟩ = some (.slice (some ad149) l0_0.length c0_0) := (blk_cell BK148.out 0).trans rfl
                have hcz44_1 : wc.cell? ⟨gb148, 1, none⟩ = some (.slice A0_1 l0_1.length c0_1) := (blk_cell BK148.out 1).trans rfl
                have hcz44_2 : wc.cell? ⟨gb148, 2, none⟩ = some (.slice A0_2 l0_2.length c0_2) := (blk_cell BK148.out 2).trans rfl
                have hfz44_0 := blk_frozen BK148.out 0
                have hfz44_1 := blk_frozen BK148.out 1
                have hfz44_2 := blk_frozen BK148.out 2
                have p152 : 0 ≤ ((ji28) : Int) := of_decide_eq_true q1_
                have q152 : (ji28) < (l0_0.length : Int) := of_decide_eq_true q1_
                obtain ⟨ad152, e152, hx152_0, hx152_1⟩ := at_T52 HR0_0.out (ji28) p152 q152
                obtain rfl : ad149 = ad152 := (by injection e152)
                replace hx152_0 := (HB.out.cell (World.block_lt_of_cell? w _ hx152_0)).trans hx152_0
                replace hx152_1 := (HB.out.cell (World.block_lt_of_cell? w _ hx152_1)).trans hx152_1
                replace p152 := eq_true p152
                replace q152 := eq_true q152
                have hcz45_0 : wc.cell? ⟨gb150, 0, none⟩ = some (.string ((rd_T52 l0_0 x3_2).f0)) := (blk_cell BK150.out 0).trans rfl
                have hcz45_1 : wc.cell? ⟨gb150, 1, none⟩ = some (.int .i64 ((rd_T52 l0_0 x3_2).f1)) := (blk_cell BK150.out 1).trans rfl
                have hfz45_0 := blk_frozen BK150.out 0
                have hfz45_1 := blk_frozen BK150.out 1
                have p153 : 0 ≤ ((ji28) : Int) := of_decide_eq_true q1_
                have q153 : (ji28) < (l0_0.length : Int) := of_decide_eq_true q1_
                obtain ⟨ad153, e153, hx153_0, hx153_1⟩ := at_T52 HR0_0.out (ji28) p153 q153
                obtain rfl : ad149 = ad153 := (by injection e153)
                replace hx153_0 := (HB.out.cell (World.block_lt_of_cell? w _ hx153_0)).trans hx153_0
                replace hx153_1 := (HB.out.cell (World.block_lt_of_cell? w _ hx153_1)).trans hx153_1
                replace p153 := eq_true p153
                replace q153 := eq_true q153
                go_wp2
                repeat (go_quiet (fail); try go_wp2)
                go_roundg kj11
                case measure => have := HJ1.out; have := HK2.out; have := HJ11.out; omega
                case rel => exact ⟨(wrap64 (x3_2 + 1)), q13_, H', ⟨by have := HJ1.out; have := HK2.out; have := HJ11.out; omega⟩, ⟨by (with_reducible repeat (first | refine blk_drewN ?_ _ | refine blk_drew ?_ | refine blk_alloc ?_ _)); exact BK148.out⟩, ⟨by repeat (first | (with_reducible first | exact HB.out | apply below_alloc | apply pw_below_drewN | apply below_drew1 | refine below_set ?_ GE148.out | refine below_set ?_ GE150.out) | exact HB.out)⟩⟩
             ·rw [if_neg c30] at H
              exact absurd H (by simp)
            ·rw [if_neg c29] at H
             exact absurd H (by simp)
           ·rw [if_neg c27] at H
            have c27b0 : decide (0 < x3_2) = false := decide_eq_false c27
            clear c27
            have H' := Aside0.mk H
            clear H
            go_wp2
            repeat (go_quiet (fail); try go_wp2)
            go_roundg kj11
            case measure => have := HJ1.out; have := HK2.out; have := HJ11.out; omega
            case rel => exact ⟨(wrap64 (x3_2 + 1)), q13_, H', ⟨by have := HJ1.out; have := HK2.out; have := HJ11.out; omega⟩, ⟨by (with_reducible repeat (first | refine blk_drewN ?_ _ | refine blk_drew ?_ | refine blk_alloc ?_ _)); exact BK148.out⟩, ⟨by repeat (first | (with_reducible first | exact HB.out | apply below_alloc | apply pw_below_drewN | apply below_drew1 | refine below_set ?_ GE148.out | refine below_set ?_ GE150.out) | exact HB.out)⟩⟩
       ·rw [if_neg c11] at H
        exact absurd H (by simp)
      ·rw [if_neg c10] at H
       have c10b0 : decide (x3_2 < (l0_0.length : Int)) = false := decide_eq_false c10
       clear c10
       have H' := Aside0.mk H
       clear H
       have hcz46_0 : wr.cell? ⟨gb148, 0, none⟩ = some (.slice A0_0 l0_0.length c0_0) := (blk_cell BK148.out 0).trans rfl
       have hcz46_1 : wr.cell? ⟨gb148, 1, none⟩ = some (.slice A0_1 l0_1.length c0_1) := (blk_cell BK148.out 1).trans rfl
       have hcz46_2 : wr.cell? ⟨gb148, 2, none⟩ = some (.slice A0_2 l0_2.length c0_2) := (blk_cell BK148.out 2).trans rfl
       have hfz46_0 := blk_frozen BK148.out 0
       have hfz46_1 := blk_frozen BK148.out 1
       have hfz46_2 := blk_frozen BK148.out 2
       go_wp2
       repeat (go_quiet (fail); try go_wp2)
       go_loopg [5] k2 (fun kq v5 w' => ∃ (x5_3 : Int), v5 = .int .i64 x5_3 ∧ Aside0 (retargetref04_Check.l1 kq x5_3 l0_0 l0_1 l0_2 = some r) ∧ Aside0 (kq ≤ k2) ∧ Aside0 (w'.heap[gb148]? = some (.cells #[(.slice A0_0 l0_0.length c0_0), (.slice A0_1 l0_1.length c0_1), (.slice A0_2 l0_2.length c0_2)] 26 (0, 0))) ∧ Aside0 (Below w.heap.size w w'))
       case atStart => exact ⟨(0), q13_, H', ⟨Nat.le_refl _⟩, ⟨by (with_reducible repeat (first | refine blk_drewN ?_ _ | refine blk_drew ?_ | refine blk_alloc ?_ _)); exact BK148.out⟩, ⟨by repeat (first | (with_reducible first | exact HB.out | apply below_alloc | apply pw_below_drewN | apply below_drew1 | refine below_set ?_ GE148.out) | exact HB.out)⟩⟩
       case round =>
        clear H'
        try clear c1
        try clear p1
        try clear q1
        try clear hx1
        try clear c2
        try clear p2
        try clear c3
        try clear c4
        try clear c4b0
        try clear c4b1
        try clear c6
        try clear c6b0
        try clear c6b1
        try clear p6
        try clear c9
        try clear c10
        try clear c10b0
        try clear c11
        try clear c11b0
        try clear p14
        try clear q14
        try clear hx14
        try clear c15
        try clear p15
        try clear q15
        try clear hx15
        try clear c17
        try clear c18
        try clear c19
        try clear c19b0
        try clear c20
        try clear c22
        try clear c24
        try clear c26
        try clear c27
        try clear c27b0
        try clear c29
        try clear c29b0
        try clear c30
        try clear c30b0
        try clear c31
        try clear c31b0
        try clear c32
        try clear c35
        try clear c35b0
        try clear c35b1
        try clear c36
        try clear c36b0
        try clear c37
        try clear c40
        try clear c43
        try clear hcz13_0
        try clear hcz13_1
        try clear hcz13_2
        try clear hcz16_0
        try clear hcz16_1
        try clear hcz21_0
        try clear hcz21_1
        try clear hcz23_0
        try clear hcz23_1
        try clear hcz25_0
        try clear hcz25_1
        try clear hcz33_0
        try clear hcz33_1
        try clear hcz33_2
        try clear hcz34_0
        try clear hcz34_1
        try clear hcz38_0
        try clear hcz38_1
        try clear hcz38_2
        try clear hcz39_0
        try clear hcz39_1
        try clear hcz41_0
        try clear hcz41_1
        try clear hcz41_2
        try clear hcz42_0
        try clear hcz42_1
        try clear hcz44_0
        try clear hcz44_1
        try clear hcz44_2
        try clear hcz45_0
        try clear hcz45_1
        try clear hcz46_0
        try clear hcz46_1
        try clear hcz46_2
        try clear hcz5_0
        try clear hcz5_1
        try clear hcz5_2
        try clear hcz7_0
        try clear hcz7_1
        try clear hcz7_2
        try clear hcz8_0
        try clear hcz8_1
        try clear hcz8_2
        try clear hfz13_0
        try clear hfz13_1
        try clear hfz13_2
        try clear hfz16_0
        try clear hfz16_1
        try clear hfz21_0
        try clear hfz21_1
        try clear hfz23_0
        try clear hfz23_1
        try clear hfz25_0
        try clear hfz25_1
        try clear hfz33_0
        try clear hfz33_1
        try clear hfz33_2
        try clear hfz34_0
        try clear hfz34_1
        try clear hfz38_0
        try clear hfz38_1
        try clear hfz38_2
        try clear hfz39_0
        try clear hfz39_1
        try clear hfz41_0
        try clear hfz41_1
        try clear hfz41_2
        try clear hfz42_0
        try clear hfz42_1
        try clear hfz44_0
        try clear hfz44_1
        try clear hfz44_2
        try clear hfz45_0
        try clear hfz45_1
        try clear hfz46_0
        try clear hfz46_1
        try clear hfz46_2
        try clear hfz5_0
        try clear hfz5_1
        try clear hfz5_2
        try clear hfz7_0
        try clear hfz7_1
        try clear hfz7_2
        try clear hfz8_0
        try clear hfz8_1
        try clear hfz8_2
        try clear hx149_0
        try clear hx149_1
        try clear hx152_0
        try clear hx152_1
        try clear hx153_0
        try clear hx153_1
        try clear hx154_0
        try clear hx154_1
        try clear p1
        try clear p14
        try clear p149
        try clear p152
        try clear p153
        try clear p154
        try clear p2
        try clear q1
        try clear q14
        try clear q149
        try clear q152
        try clear q153
        try clear q154
        obtain ⟨x5_3, rfl, HA, HK3, BK148, HB⟩ := hrel
        cases gk with
        | zero => exact absurd HA.out (by simp [retargetref04_Check.l1])
        | succ k3 =>
         have H := HA.out
         clear HA
         simp only [retargetref04_Check.l1] at H
         by_cases c47 : x5_3 < (l0_1.length : Int)
         ·rw [if_pos c47] at H
          have c47b0 : decide (x5_3 < (l0_1.length : Int)) = true := decide_eq_true c47
          clear c47
          by_cases c48 : 0 ≤ x5_3
          ·rw [if_pos c48] at H
           have c48b0 : decide (0 ≤ x5_3) = true := decide_eq_true c48
           clear c48
           by_cases c49 : ((rd_T54 l0_1 x5_3).f0) < 0
           ·rw [if_pos c49] at H
            have c49b0 : decide (((rd_T54 l0_1 x5_3).f0) < 0) = true := decide_eq_true c49
            clear c49
            obtain rfl := Option.some.inj H
            have hcz50_0 : wr.cell? ⟨gb148, 0, none⟩ = some (.slice A0_0 l0_0.length c0_0) := (blk_cell BK148.out 0).trans rfl
            have hcz50_1 : wr.cell? ⟨gb148, 1, none⟩ = some (.slice A0_1 l0_1.length c0_1) := (blk_cell BK148.out 1).trans rfl
            have hcz50_2 : wr.cell? ⟨gb148, 2, none⟩ = some (.slice A0_2 l0_2.length c0_2) := (blk_cell BK148.out 2).trans rfl
            have hfz50_0 := blk_frozen BK148.out 0
            have hfz50_1 := blk_frozen BK148.out 1
            have hfz50_2 := blk_frozen BK148.out 2
            have p155 : 0 ≤ (x5_3 : Int) := of_decide_eq_true q1_
            have q155 : x5_3 < (l0_1.length : Int) := of_decide_eq_true q1_
            obtain ⟨ad155, e155, hx155_0, hx155_1⟩ := at_T54 HR0_1.out x5_3 p155 q155
            cases e155
            replace hx155_0 := (HB.out.cell (World.block_lt_of_cell? w _ hx155_0)).trans hx155_0
            replace hx155_1 := (HB.out.cell (World.block_lt_of_cell? w _ hx155_1)).trans hx155_1
            replace p155 := eq_true p155
            replace q155 := eq_true q155
            go_wp2_with (first | ((with_reducible refine gate_dst (N := 7) rfl ?_); (try (refine gate_guard (by rfl) ?_; dsimp only)); refine box_event ?hg (N := 7) ?hd (cs := #[.int .i64 0, .int .i64 0]) (t := 54) ?hr ?_; (case hd => rfl); (case hg => rfl); (case hr => first | (go_simp; done) | (go_simp; rfl)); intro gb156 hg w51 hbox hb; have n0_ := Aside0.mk (blk_below (g := gb148) (o := .cells #[.slice A0_0 l0_0.length c0_0, .slice (some ad155) l0_1.length c0_1, .slice A0_2 l0_2.length c0_2] 26 (0, 0)) q10_ hb); have n1_ := Aside0.mk (below_step q6_ hb); have n2_ := Aside0.mk (hbox); have n3_ := Aside0.mk ((by rw [hg]; exact (below_size q6_) : w.heap.size ≤ gb156)); have n4_ := Aside0.mk ((by rw [hg]; exact (below_size q6_) : w.heap.size ≤ gb156)); have n5_ := Aside0.mk ((by rw [hg]; exact Nat.ne_of_lt (blk_lt (g := gb148) (o := .cells #[.slice A0_0 l0_0.length c0_0, .slice (some ad155) l0_1.length c0_1, .slice A0_2 l0_2.length c0_2] 26 (0, 0)) q10_) : gb148 ≠ gb156)); have n6_ := Aside0.mk ((by rw [hg]; exact Nat.ne_of_gt (blk_lt (g := gb148) (o := .cells #[.slice A0_0 l0_0.length c0_0, .slice (some ad155) l0_1.length c0_1, .slice A0_2 l0_2.length c0_2] 26 (0, 0)) q10_) : gb156 ≠ gb148)); clear BK148; clear HB; have BK148 := n0_; have HB := n1_; have BK156 := n2_; have GW156 := n3_; have GE156 := n4_; have NB148_156 := n5_; have NB156_148 := n6_; clear n0_ n1_ n2_ n3_ n4_ n5_ n6_; clear hb hbox hg; have hnb52 := NB156_148.out; have hnc52 := NB148_156.out; have hcz53_0 : w51.cell? ⟨gb156, 0, none⟩ = some (.int .i64 0) := (blk_cell BK156.out 0).trans rfl; have hcz53_1 : w51.cell? ⟨gb156, 1, none⟩ = some (.int .i64 0) := (blk_cell BK156.out 1).trans rfl; have hfz53_0 := blk_frozen BK156.out 0; have hfz53_1 := blk_frozen BK156.out 1))
            repeat (go_quiet (first | ((with_reducible refine gate_dst (N := 7) rfl ?_); (try (refine gate_guard (by rfl) ?_; dsimp only)); refine box_event ?hg (N := 7) ?hd (cs := #[.int .i64 0, .int .i64 0]) (t := 54) ?hr ?_; (case hd => rfl); (case hg => rfl); (case hr => first | (go_simp; done) | (go_simp; rfl)); intro gb156 hg w51 hbox hb; have n0_ := Aside0.mk (blk_below (g := gb148) (o := .cells #[.slice A0_0 l0_0.length c0_0, .slice (some ad155) l0_1.length c0_1, .slice A0_2 l0_2.length c0_2] 26 (0, 0)) q10_ hb); have n1_ := Aside0.mk (below_step q6_ hb); have n2_ := Aside0.mk (hbox); have n3_ := Aside0.mk ((by rw [hg]; exact (below_size q6_) : w.heap.size ≤ gb156)); have n4_ := Aside0.mk ((by rw [hg]; exact (below_size q6_) : w.heap.size ≤ gb156)); have n5_ := Aside0.mk ((by rw [hg]; exact Nat.ne_of_lt (blk_lt (g := gb148) (o := .cells #[.slice A0_0 l0_0.length c0_0, .slice (some ad155) l0_1.length c0_1, .slice A0_2 l0_2.length c0_2] 26 (0, 0)) q10_) : gb148 ≠ gb156)); have n6_ := Aside0.mk ((by rw [hg]; exact Nat.ne_of_gt (blk_lt (g := gb148) (o := .cells #[.slice A0_0 l0_0.length c0_0, .slice (some ad155) l0_1.length c0_1, .slice A0_2 l0_2.length c0_2] 26 (0, 0)) q10_) : gb156 ≠ gb148)); clear BK148; clear HB; have BK148 := n0_; have HB := n1_; have BK156 := n2_; have GW156 := n3_; have GE156 := n4_; have NB148_156 := n5_; have NB156_148 := n6_; clear n0_ n1_ n2_ n3_ n4_ n5_ n6_; clear hb hbox hg; have hnb52 := NB156_148.out; have hnc52 := NB148_156.out; have hcz53_0 : w51.cell? ⟨gb156, 0, none⟩ = some (.int .i64 0) := (blk_cell BK156.out 0).trans rfl; have hcz53_1 : w51.cell? ⟨gb156, 1, none⟩ = some (.int .i64 0) := (blk_cell BK156.out 1).trans rfl; have hfz53_0 := blk_frozen BK156.out 0; have hfz53_1 := blk_frozen BK156.out 1)); try go_wp2_with (first | ((with_reducible refine gate_dst (N := 7) rfl ?_); (try (refine gate_guard (by rfl) ?_; dsimp only)); refine box_event ?hg (N := 7) ?hd (cs := #[.int .i64 0, .int .i64 0]) (t := 54) ?hr ?_; (case hd => rfl); (case hg => rfl); (case hr => first | (go_simp; done) | (go_simp; rfl)); intro gb156 hg w51 hbox hb; have n0_ := Aside0.mk (blk_below (g := gb148) (o := .cells #[.slice A0_0 l0_0.length c0_0, .slice (some ad155) l0_1.length c0_1, .slice A0_2 l0_2.length c0_2] 26 (0, 0)) q10_ hb); have n1_ := Aside0.mk (below_step q6_ hb); have n2_ := Aside0.mk (hbox); have n3_ := Aside0.mk ((by rw [hg]; exact (below_size q6_) : w.heap.size ≤ gb156)); have n4_ := Aside0.mk ((by rw [hg]; exact (below_size q6_) : w.heap.size ≤ gb156)); have n5_ := Aside0.mk ((by rw [hg]; exact Nat.ne_of_lt (blk_lt (g := gb148) (o := .cells #[.slice A0_0 l0_0.length c0_0, .slice (some ad155) l0_1.length c0_1, .slice A0_2 l0_2.length c0_2] 26 (0, 0)) q10_) : gb148 ≠ gb156)); have n6_ := Aside0.mk ((by rw [hg]; exact Nat.ne_of_gt (blk_lt (g := gb148) (o := .cells #[.slice A0_0 l0_0.length c0_0, .slice (some ad155) l0_1.length c0_1, .slice A0_2 l0_2.length c0_2] 26 (0, 0)) q10_) : gb156 ≠ gb148)); clear BK148; clear HB; have BK148 := n0_; have HB := n1_; have BK156 := n2_; have GW156 := n3_; have GE156 := n4_; have NB148_156 := n5_; have NB156_148 := n6_; clear n0_ n1_ n2_ n3_ n4_ n5_ n6_; clear hb hbox hg; have hnb52 := NB156_148.out; have hnc52 := NB148_156.out; have hcz53_0 : w51.cell? ⟨gb156, 0, none⟩ = some (.int .i64 0) := (blk_cell BK156.out 0).trans rfl; have hcz53_1 : w51.cell? ⟨gb156, 1, none⟩ = some (.int .i64 0) := (blk_cell BK156.out 1).trans rfl; have hfz53_0 := blk_frozen BK156.out 0; have hfz53_1 := blk_frozen BK156.out 1)))
            go_ret
            exact ⟨by first | rfl | (simp [errW_none, errW_some] <;> rfl) | (simp [*, errW_none, errW_some] <;> rfl), by repeat (first | (with_reducible first | exact HB.out | apply below_alloc | apply pw_below_drewN | apply below_drew1 | refine below_set ?_ GE148.out | refine below_set ?_ GE156.out) | exact HB.out)⟩
           ·rw [if_neg c49] at H
            have c49b0 : decide (((rd_T54 l0_1 x5_3).f0) < 0) = false := decide_eq_false c49
            clear c49
            by_cases c54 : ((rd_T54 l0_1 x5_3).f0) ≥ (wrap64 (2 * (wrap64 ((wrap64 (1 + (l0_0.length : Int))) + x5_3))))
            ·rw [if_pos c54] at H
             have c54b0 : decide ((wrap64 (2 * (wrap64 ((wrap64 (1 + (l0_0.length : Int))) + x5_3)))) ≤ ((rd_T54 l0_1 x5_3).f0)) = true := decide_eq_true c54
             clear c54
             obtain rfl := Option.some.inj H
             have hcz55_0 : wr.cell? ⟨gb148, 0, none⟩ = some (.slice A0_0 l0_0.length c0_0) := (blk_cell BK148.out 0).trans rfl
             have hcz55_1 : wr.cell? ⟨gb148, 1, none⟩ = some (.slice A0_1 l0_1.length c0_1) := (blk_cell BK148.out 1).trans rfl
             have hcz55_2 : wr.cell? ⟨gb148, 2, none⟩ = some (.slice A0_2 l0_2.length c0_2) := (blk_cell BK148.out 2).trans rfl
             have hfz55_0 := blk_frozen BK148.out 0
             have hfz55_1 := blk_frozen BK148.out 1
             have hfz55_2 := blk_frozen BK148.out 2
             have p155 : 0 ≤ (x5_3 : Int) := of_decide_eq_true q1_
             have q155 : x5_3 < (l0_1.length : Int) := of_decide_eq_true q1_
             obtain ⟨ad155, e155, hx155_0, hx155_1⟩ := at_T54 HR0_1.out x5_3 p155 q155
             cases e155
             replace hx155_0 := (HB.out.cell (World.block_lt_of_cell? w _ hx155_0)).trans hx155_0
             replace hx155_1 := (HB.out.cell (World.block_lt_of_cell? w _ hx155_1)).trans hx155_1
             replace p155 := eq_true p155
             replace q155 := eq_true q155
             go_wp2_with (first | ((with_reducible refine gate_dst (N := 7) rfl ?_); (try (refine gate_guard (by rfl) ?_; dsimp only)); refine box_event ?hg (N := 7) ?hd (cs := #[.int .i64 0, .int .i64 0]) (t := 54) ?hr ?_; (case hd => rfl); (case hg => rfl); (case hr => first | (go_simp; done) | (go_simp; rfl)); intro gb156 hg w56 hbox hb; have n0_ := Aside0.mk (blk_below (g := gb148) (o := .cells #[.slice A0_0 l0_0.length c0_0, .slice (some ad155) l0_1.length c0_1, .slice A0_2 l0_2.length c0_2] 26 (0, 0)) q10_ hb); have n1_ := Aside0.mk (below_step q6_ hb); have n2_ := Aside0.mk (hbox); have n3_ := Aside0.mk ((by rw [hg]; exact (below_size q6_) : w.heap.size ≤ gb156)); have n4_ := Aside0.mk ((by rw [hg]; exact (below_size q6_) : w.heap.size ≤ gb156)); have n5_ := Aside0.mk ((by rw [hg]; exact Nat.ne_of_lt (blk_lt (g := gb148) (o := .cells #[.slice A0_0 l0_0.length c0_0, .slice (some ad155) l0_1.length c0_1, .slice A0_2 l0_2.length c0_2] 26 (0, 0)) q10_) : gb148 ≠ gb156)); have n6_ := Aside0.mk ((by rw [hg]; exact Nat.ne_of_gt (blk_lt (g := gb148) (o := .cells #[.slice A0_0 l0_0.length c0_0, .slice (some ad155) l0_1.length c0_1, .slice A0_2 l0_2.length c0_2] 26 (0, 0)) q10_) : gb156 ≠ gb148)); clear BK148; clear HB; have BK148 := n0_; have HB := n1_; have BK156 := n2_; have GW156 := n3_; have GE156 := n4_; have NB148_156 := n5_; have NB156_148 := n6_; clear n0_ n1_ n2_ n3_ n4_ n5_ n6_; clear hb hbox hg; have hnb57 := NB156_148.out; have hnc57 := NB148_156.out; have hcz58_0 : w56.cell? ⟨gb156, 0, none⟩ = some (.int .i64 0) := (blk_cell BK156.out 0).trans rfl; have hcz58_1 : w56.cell? ⟨gb156, 1, none⟩ = some (.int .i64 0) := (blk_cell BK156.out 1).trans rfl; have hfz58_0 := blk_frozen BK156.out 0; have hfz58_1 := blk_frozen BK156.out 1))
             repeat (go_quiet (first | ((with_reducible refine gate_dst (N := 7) rfl ?_); (try (refine gate_guard (by rfl) ?_; dsimp only)); refine box_event ?hg (N := 7) ?hd (cs := #[.int .i64 0, .int .i64 0]) (t := 54) ?hr ?_; (case hd => rfl); (case hg => rfl); (case hr => first | (go_simp; done) | (go_simp; rfl)); intro gb156 hg w56 hbox hb; have n0_ := Aside0.mk (blk_below (g := gb148) (o := .cells #[.slice A0_0 l0_0.length c0_0, .slice (some ad155) l0_1.length c0_1, .slice A0_2 l0_2.length c0_2] 26 (0, 0)) q10_ hb); have n1_ := Aside0.mk (below_step q6_ hb); have n2_ := Aside0.mk (hbox); have n3_ := Aside0.mk ((by rw [hg]; exact (below_size q6_) : w.heap.size ≤ gb156)); have n4_ := Aside0.mk ((by rw [hg]; exact (below_size q6_) : w.heap.size ≤ gb156)); have n5_ := Aside0.mk ((by rw [hg]; exact Nat.ne_of_lt (blk_lt (g := gb148) (o := .cells #[.slice A0_0 l0_0.length c0_0, .slice (some ad155) l0_1.length c0_1, .slice A0_2 l0_2.length c0_2] 26 (0, 0)) q10_) : gb148 ≠ gb156)); have n6_ := Aside0.mk ((by rw [hg]; exact Nat.ne_of_gt (blk_lt (g := gb148) (o := .cells #[.slice A0_0 l0_0.length c0_0, .slice (some ad155) l0_1.length c0_1, .slice A0_2 l0_2.length c0_2] 26 (0, 0)) q10_) : gb156 ≠ gb148)); clear BK148; clear HB; have BK148 := n0_; have HB := n1_; have BK156 := n2_; have GW156 := n3_; have GE156 := n4_; have NB148_156 := n5_; have NB156_148 := n6_; clear n0_ n1_ n2_ n3_ n4_ n5_ n6_; clear hb hbox hg; have hnb57 := NB156_148.out; have hnc57 := NB148_156.out; have hcz58_0 : w56.cell? ⟨gb156, 0, none⟩ = some (.int .i64 0) := (blk_cell BK156.out 0).trans rfl; have hcz58_1 : w56.cell? ⟨gb156, 1, none⟩ = some (.int .i64 0) := (blk_cell BK156.out 1).trans rfl; have hfz58_0 := blk_frozen BK156.out 0; have hfz58_1 := blk_frozen BK156.out 1)); try go_wp2_with (first | ((with_reducible refine gate_dst (N := 7) rfl ?_); (try (refine gate_guard (by rfl) ?_; dsimp only)); refine box_event ?hg (N := 7) ?hd (cs := #[.int .i64 0, .int .i64 0]) (t := 54) ?hr ?_; (case hd => rfl); (case hg => rfl); (case hr => first | (go_simp; done) | (go_simp; rfl)); intro gb156 hg w56 hbox hb; have n0_ := Aside0.mk (blk_below (g := gb148) (o := .cells #[.slice A0_0 l0_0.length c0_0, .slice (some ad155) l0_1.length c0_1, .slice A0_2 l0_2.length c0_2] 26 (0, 0)) q10_ hb); have n1_ := Aside0.mk (below_step q6_ hb); have n2_ := Aside0.mk (hbox); have n3_ := Aside0.mk ((by rw [hg]; exact (below_size q6_) : w.heap.size ≤ gb156)); have n4_ := Aside0.mk ((by rw [hg]; exact (below_size q6_) : w.heap.size ≤ gb156)); have n5_ := Aside0.mk ((by rw [hg]; exact Nat.ne_of_lt (blk_lt (g := gb148) (o := .cells #[.slice A0_0 l0_0.length c0_0, .slice (some ad155) l0_1.length c0_1, .slice A0_2 l0_2.length c0_2] 26 (0, 0)) q10_) : gb148 ≠ gb156)); have n6_ := Aside0.mk ((by rw [hg]; exact Nat.ne_of_gt (blk_lt (g := gb148) (o := .cells #[.slice A0_0 l0_0.length c0_0, .slice (some ad155) l0_1.length c0_1, .slice A0_2 l0_2.length c0_2] 26 (0, 0)) q10_) : gb156 ≠ gb148)); clear BK148; clear HB; have BK148 := n0_; have HB := n1_; have BK156 := n2_; have GW156 := n3_; have GE156 := n4_; have NB148_156 := n5_; have NB156_148 := n6_; clear n0_ n1_ n2_ n3_ n4_ n5_ n6_; clear hb hbox hg; have hnb57 := NB156_148.out; have hnc57 := NB148_156.out; have hcz58_0 : w56.cell? ⟨gb156, 0, none⟩ = some (.int .i64 0) := (blk_cell BK156.out 0).trans rfl; have hcz58_1 : w56.cell? ⟨gb156, 1, none⟩ = some (.int .i64 0) := (blk_cell BK156.out 1).trans rfl; have hfz58_0 := blk_frozen BK156.out 0; have hfz58_1 := blk_frozen BK156.out 1)))
             go_ret
             exact ⟨by first | rfl | (simp [errW_none, errW_some] <;> rfl) | (simp [*, errW_none, errW_some] <;> rfl), by repeat (first | (with_reducible first | exact HB.out | apply below_alloc | apply pw_below_drewN | apply below_drew1 | refine below_set ?_ GE148.out | refine below_set ?_ GE156.out) | exact HB.out)⟩
            ·rw [if_neg c54] at H
             have c54b0 : decide ((wrap64 (2 * (wrap64 ((wrap64 (1 + (l0_0.length : Int))) + x5_3)))) ≤ ((rd_T54 l0_1 x5_3).f0)) = false := decide_eq_false c54
             clear c54
             by_cases c59 : ((rd_T54 l0_1 x5_3).f1) < 0
             ·rw [if_pos c59] at H
              have c59b0 : decide (((rd_T54 l0_1 x5_3).f1) < 0) = true := decide_eq_true c59
              clear c59
              obtain rfl := Option.some.inj H
              have hcz60_0 : wr.cell? ⟨gb148, 0, none⟩ = some (.slice A0_0 l0_0.length c0_0) := (blk_cell BK148.out 0).trans rfl
              have hcz60_1 : wr.cell? ⟨gb148, 1, none⟩ = some (.slice A0_1 l0_1.length c0_1) := (blk_cell BK148.out 1).trans rfl
              have hcz60_2 : wr.cell? ⟨gb148, 2, none⟩ = some (.slice A0_2 l0_2.length c0_2) := (blk_cell BK148.out 2).trans rfl
              have hfz60_0 := blk_frozen BK148.out 0
              have hfz60_1 := blk_frozen BK148.out 1
              have hfz60_2 := blk_frozen BK148.out 2
              have p155 : 0 ≤ (x5_3 : Int) := of_decide_eq_true q1_
              have q155 : x5_3 < (l0_1.length : Int) := of_decide_eq_true q1_
              obtain ⟨ad155, e155, hx155_0, hx155_1⟩ := at_T54 HR0_1.out x5_3 p155 q155
              cases e155
              replace hx155_0 := (HB.out.cell (World.block_lt_of_cell? w _ hx155_0)).trans hx155_0
              replace hx155_1 := (HB.out.cell (World.block_lt_of_cell? w _ hx155_1)).trans hx155_1
              replace p155 := eq_true p155
              replace q155 := eq_true q155
              go_wp2_with (first | ((with_reducible refine gate_dst (N := 7) rfl ?_); (try (refine gate_guard (by rfl) ?_; dsimp only)); refine box_event ?hg (N := 7) ?hd (cs := #[.int .i64 0, .int .i64 0]) (t := 54) ?hr ?_; (case hd => rfl); (case hg => rfl); (case hr => first | (go_simp; done) | (go_simp; rfl)); intro gb156 hg w61 hbox hb; have n0_ := Aside0.mk (blk_below (g := gb148) (o := .cells #[.slice A0_0 l0_0.length c0_0, .slice (some ad155) l0_1.length c0_1, .slice A0_2 l0_2.length c0_2] 26 (0, 0)) q10_ hb); have n1_ := Aside0.mk (below_step q6_ hb); have n2_ := Aside0.mk (hbox); have n3_ := Aside0.mk ((by rw [hg]; exact (below_size q6_) : w.heap.size ≤ gb156)); have n4_ := Aside0.mk ((by rw [hg]; exact (below_size q6_) : w.heap.size ≤ gb156)); have n5_ := Aside0.mk ((by rw [hg]; exact Nat.ne_of_lt (blk_lt (g := gb148) (o := .cells #[.slice A0_0 l0_0.length c0_0, .slice (some ad155) l0_1.length c0_1, .slice A0_2 l0_2.length c0_2] 26 (0, 0)) q10_) : gb148 ≠ gb156)); have n6_ := Aside0.mk ((by rw [hg]; exact Nat.ne_of_gt (blk_lt (g := gb148) (o := .cells #[.slice A0_0 l0_0.length c0_0, .slice (some ad155) l0_1.length c0_1, .slice A0_2 l0_2.length c0_2] 26 (0, 0)) q10_) : gb156 ≠ gb148)); clear BK148; clear HB; have BK148 := n0_; have HB := n1_; have BK156 := n2_; have GW156 := n3_; have GE156 := n4_; have NB148_156 := n5_; have NB156_148 := n6_; clear n0_ n1_ n2_ n3_ n4_ n5_ n6_; clear hb hbox hg; have hnb62 := NB156_148.out; have hnc62 := NB148_156.out; have hcz63_0 : w61.cell? ⟨gb156, 0, none⟩ = some (.int .i64 0) := (blk_cell BK156.out 0).trans rfl; have hcz63_1 : w61.cell? ⟨gb156, 1, none⟩ = some (.int .i64 0) := (blk_cell BK156.out 1).trans rfl; have hfz63_0 := blk_frozen BK156.out 0; have hfz63_1 := blk_frozen BK156.out 1))
              repeat (go_quiet (first | ((with_reducible refine gate_dst (N := 7) rfl ?_); (try (refine gate_guard (by rfl) ?_; dsimp only)); refine box_event ?hg (N := 7) ?hd (cs := #[.int .i64 0, .int .i64 0]) (t := 54) ?hr ?_; (case hd => rfl); (case hg => rfl); (case hr => first | (go_simp; done) | (go_simp; rfl)); intro gb156 hg w61 hbox hb; have n0_ := Aside0.mk (blk_below (g := gb148) (o := .cells #[.slice A0_0 l0_0.length c0_0, .slice (some ad155) l0_1.length c0_1, .slice A0_2 l0_2.length c0_2] 26 (0, 0)) q10_ hb); have n1_ := Aside0.mk (below_step q6_ hb); have n2_ := Aside0.mk (hbox); have n3_ := Aside0.mk ((by rw [hg]; exact (below_size q6_) : w.heap.size ≤ gb156)); have n4_ := Aside0.mk ((by rw [hg]; exact (below_size q6_) : w.heap.size ≤ gb156)); have n5_ := Aside0.mk ((by rw [hg]; exact Nat.ne_of_lt (blk_lt (g := gb148) (o := .cells #[.slice A0_0 l0_0.length c0_0, .slice (some ad155) l0_1.length c0_1, .slice A0_2 l0_2.length c0_2] 26 (0, 0)) q10_) : gb148 ≠ gb156)); have n6_ := Aside0.mk ((by rw [hg]; exact Nat.ne_of_gt (blk_lt (g := gb148) (o := .cells #[.slice A0_0 l0_0.length c0_0, .slice (some ad155) l0_1.length c0_1, .slice A0_2 l0_2.length c0_2] 26 (0, 0)) q10_) : gb156 ≠ gb148)); clear BK148; clear HB; have BK148 := n0_; have HB := n1_; have BK156 := n2_; have GW156 := n3_; have GE156 := n4_; have NB148_156 := n5_; have NB156_148 := n6_; clear n0_ n1_ n2_ n3_ n4_ n5_ n6_; clear hb hbox hg; have hnb62 := NB156_148.out; have hnc62 := NB148_156.out; have hcz63_0 : w61.cell? ⟨gb156, 0, none⟩ = some (.int .i64 0) := (blk_cell BK156.out 0).trans rfl; have hcz63_1 : w61.cell? ⟨gb156, 1, none⟩ = some (.int .i64 0) := (blk_cell BK156.out 1).trans rfl; have hfz63_0 := blk_frozen BK156.out 0; have hfz63_1 := blk_frozen BK156.out 1)); try go_wp2_with (first | ((with_reducible refine gate_dst (N := 7) rfl ?_); (try (refine gate_guard (by rfl) ?_; dsimp only)); refine box_event ?hg (N := 7) ?hd (cs := #[.int .i64 0, .int .i64 0]) (t := 54) ?hr ?_; (case hd => rfl); (case hg => rfl); (case hr => first | (go_simp; done) | (go_simp; rfl)); intro gb156 hg w61 hbox hb; have n0_ := Aside0.mk (blk_below (g := gb148) (o := .cells #[.slice A0_0 l0_0.length c0_0, .slice (some ad155) l0_1.length c0_1, .slice A0_2 l0_2.length c0_2] 26 (0, 0)) q10_ hb); have n1_ := Aside0.mk (below_step q6_ hb); have n2_ := Aside0.mk (hbox); have n3_ := Aside0.mk ((by rw [hg]; exact (below_size q6_) : w.heap.size ≤ gb156)); have n4_ := Aside0.mk ((by rw [hg]; exact (below_size q6_) : w.heap.size ≤ gb156)); have n5_ := Aside0.mk ((by rw [hg]; exact Nat.ne_of_lt (blk_lt (g := gb148) (o := .cells #[.slice A0_0 l0_0.length c0_0, .slice (some ad155) l0_1.length c0_1, .slice A0_2 l0_2.length c0_2] 26 (0, 0)) q10_) : gb148 ≠ gb156)); have n6_ := Aside0.mk ((by rw [hg]; exact Nat.ne_of_gt (blk_lt (g := gb148) (o := .cells #[.slice A0_0 l0_0.length c0_0, .slice (some ad155) l0_1.length c0_1, .slice A0_2 l0_2.length c0_2] 26 (0, 0)) q10_) : gb156 ≠ gb148)); clear BK148; clear HB; have BK148 := n0_; have HB := n1_; have BK156 := n2_; have GW156 := n3_; have GE156 := n4_; have NB148_156 := n5_; have NB156_148 := n6_; clear n0_ n1_ n2_ n3_ n4_ n5_ n6_; clear hb hbox hg; have hnb62 := NB156_148.out; have hnc62 := NB148_156.out; have hcz63_0 : w61.cell? ⟨gb156, 0, none⟩ = some (.int .i64 0) := (blk_cell BK156.out 0).trans rfl; have hcz63_1 : w61.cell? ⟨gb156, 1, none⟩ = some (.int .i64 0) := (blk_cell BK156.out 1).trans rfl; have hfz63_0 := blk_frozen BK156.out 0; have hfz63_1 := blk_frozen BK156.out 1)))
              go_ret
              exact ⟨by first | rfl | (simp [errW_none, errW_some] <;> rfl) | (simp [*, errW_none, errW_some] <;> rfl), by repeat (first | (with_reducible first | exact HB.out | apply below_alloc | apply pw_below_drewN | apply below_drew1 | refine below_set ?_ GE148.out | refine below_set ?_ GE156.out) | exact HB.out)⟩
             ·rw [if_neg c59] at H
              have c59b0 : decide (((rd_T54 l0_1 x5_3).f1) < 0) = false := decide_eq_false c59
              clear c59
              by_cases c64 : ((rd_T54 l0_1 x5_3).f1) ≥ (wrap64 (2 * (wrap64 ((wrap64 (1 + (l0_0.length : Int))) + x5_3))))
              ·rw [if_pos c64] at H
               have c64b0 : decide ((wrap64 (2 * (wrap64 ((wrap64 (1 + (l0_0.length : Int))) + x5_3)))) ≤ ((rd_T54 l0_1 x5_3).f1)) = true := decide_eq_true c64
               clear c64
               obtain rfl := Option.some.inj H
               have hcz65_0 : wr.cell? ⟨gb148, 0, none⟩ = some (.slice A0_0 l0_0.length c0_0) := (blk_cell BK148.out 0).trans rfl
               have hcz65_1 : wr.cell? ⟨gb148, 1, none⟩ = some (.slice A0_1 l0_1.length c0_1) := (blk_cell BK148.out 1).trans rfl
               have hcz65_2 : wr.cell? ⟨gb148, 2, none⟩ = some (.slice A0_2 l0_2.length c0_2) := (blk_cell BK148.out 2).trans rfl
               have hfz65_0 := blk_frozen BK148.out 0
               have hfz65_1 := blk_frozen BK148.out 1
               have hfz65_2 := blk_frozen BK148.out 2
               have p155 : 0 ≤ (x5_3 : Int) := of_decide_eq_true q1_
               have q155 : x5_3 < (l0_1.length : Int) := of_decide_eq_true q1_
               obtain ⟨ad155, e155, hx155_0, hx155_1⟩ := at_T54 HR0_1.out x5_3 p155 q155
               cases e155
               replace hx155_0 := (HB.out.cell (World.block_lt_of_cell? w _ hx155_0)).trans hx155_0
               replace hx155_1 := (HB.out.cell (World.block_lt_of_cell? w _ hx155_1)).trans hx155_1
               replace p155 := eq_true p155
               replace q155 := eq_true q155
               go_wp2_with (first | ((with_reducible refine gate_dst (N := 7) rfl ?_); (try (refine gate_guard (by rfl) ?_; dsimp only)); refine box_event ?hg (N := 7) ?hd (cs := #[.int .i64 0, .int .i64 0]) (t := 54) ?hr ?_; (case hd => rfl); (case hg => rfl); (case hr => first | (go_simp; done) | (go_simp; rfl)); intro gb156 hg w66 hbox hb; have n0_ := Aside0.mk (blk_below (g := gb148) (o := .cells #[.slice A0_0 l0_0.length c0_0, .slice (some ad155) l0_1.length c0_1, .slice A0_2 l0_2.length c0_2] 26 (0, 0)) q10_ hb); have n1_ := Aside0.mk (below_step q6_ hb); have n2_ := Aside0.mk (hbox); have n3_ := Aside0.mk ((by rw [hg]; exact (below_size q6_) : w.heap.size ≤ gb156)); have n4_ := Aside0.mk ((by rw [hg]; exact (below_size q6_) : w.heap.size ≤ gb156)); have n5_ := Aside0.mk ((by rw [hg]; exact Nat.ne_of_lt (blk_lt (g := gb148) (o := .cells #[.slice A0_0 l0_0.length c0_0, .slice (some ad155) l0_1.length c0_1, .slice A0_2 l0_2.length c0_2] 26 (0, 0)) q10_) : gb148 ≠ gb156)); have n6_ := Aside0.mk ((by rw [hg]; exact Nat.ne_of_gt (blk_lt (g := gb148) (o := .cells #[.slice A0_0 l0_0.length c0_0, .slice (some ad155) l0_1.length c0_1, .slice A0_2 l0_2.length c0_2] 26 (0, 0)) q10_) : gb156 ≠ gb148)); clear BK148; clear HB; have BK148 := n0_; have HB := n1_; have BK156 := n2_; have GW156 := n3_; have GE156 := n4_; have NB148_156 := n5_; have NB156_148 := n6_; clear n0_ n1_ n2_ n3_ n4_ n5_ n6_; clear hb hbox hg; have hnb67 := NB156_148.out; have hnc67 := NB148_156.out; have hcz68_0 : w66.cell? ⟨gb156, 0, none⟩ = some (.int .i64 0) := (blk_cell BK156.out 0).trans rfl; have hcz68_1 : w66.cell? ⟨gb156, 1, none⟩ = some (.int .i64 0) := (blk_cell BK156.out 1).trans rfl; have hfz68_0 := blk_frozen BK156.out 0; have hfz68_1 := blk_frozen BK156.out 1))
               repeat (go_quiet (first | ((with_reducible refine gate_dst (N := 7) rfl ?_); (try (refine gate_guard (by rfl) ?_; dsimp only)); refine box_event ?hg (N := 7) ?hd (cs := #[.int .i64 0, .int .i64 0]) (t := 54) ?hr ?_; (case hd => rfl); (case hg => rfl); (case hr => first | (go_simp; done) | (go_simp; rfl)); intro gb156 hg w66 hbox hb; have n0_ := Aside0.mk (blk_below (g := gb148) (o := .cells #[.slice A0_0 l0_0.length c0_0, .slice (some ad155) l0_1.length c0_1, .slice A0_2 l0_2.length c0_2] 26 (0, 0)) q10_ hb); have n1_ := Aside0.mk (below_step q6_ hb); have n2_ := Aside0.mk (hbox); have n3_ := Aside0.mk ((by rw [hg]; exact (below_size q6_) : w.heap.size ≤ gb156)); have n4_ := Aside0.mk ((by rw [hg]; exact (below_size q6_) : w.heap.size ≤ gb156)); have n5_ := Aside0.mk ((by rw [hg]; exact Nat.ne_of_lt (blk_lt (g := gb148) (o := .cells #[.slice A0_0 l0_0.length c0_0, .slice (some ad155) l0_1.length c0_1, .slice A0_2 l0_2.length c0_2] 26 (0, 0)) q10_) : gb148 ≠ gb156)); have n6_ := Aside0.mk ((by rw [hg]; exact Nat.ne_of_gt (blk_lt (g := gb148) (o := .cells #[.slice A0_0 l0_0.length c0_0, .slice (some ad155) l0_1.length c0_1, .slice A0_2 l0_2.length c0_2] 26 (0, 0)) q10_) : gb156 ≠ gb148)); clear BK148; clear HB; have BK148 := n0_; have HB := n1_; have BK156 := n2_; have GW156 := n3_; have GE156 := n4_; have NB148_156 := n5_; have NB156_148 := n6_; clear n0_ n1_ n2_ n3_ n4_ n5_ n6_; clear hb hbox hg; have hnb67 := NB156_148.out; have hnc67 := NB148_156.out; have hcz68_0 : w66.cell? ⟨gb156, 0, none⟩ = some (.int .i64 0) := (blk_cell BK156.out 0).trans rfl; have hcz68_1 : w66.cell? ⟨gb156, 1, none⟩ = some (.int .i64 0) := (blk_cell BK156.out 1).trans rfl; have hfz68_0 := blk_frozen BK156.out 0; have hfz68_1 := blk_frozen BK156.out 1)); try go_wp2_with (first | ((with_reducible refine gate_dst (N := 7) rfl ?_); (try (refine gate_guard (by rfl) ?_; dsimp only)); refine box_event ?hg (N := 7) ?hd (cs := #[.int .i64 0, .int .i64 0]) (t := 54) ?hr ?_; (case hd => rfl); (case hg => rfl); (case hr => first | (go_simp; done) | (go_simp; rfl)); intro gb156 hg w66 hbox hb; have n0_ := Aside0.mk (blk_below (g := gb148) (o := .cells #[.slice A0_0 l0_0.length c0_0, .slice (some ad155) l0_1.length c0_1, .slice A0_2 l0_2.length c0_2] 26 (0, 0)) q10_ hb); have n1_ := Aside0.mk (below_step q6_ hb); have n2_ := Aside0.mk (hbox); have n3_ := Aside0.mk ((by rw [hg]; exact (below_size q6_) : w.heap.size ≤ gb156)); have n4_ := Aside0.mk ((by rw [hg]; exact (below_size q6_) : w.heap.size ≤ gb156)); have n5_ := Aside0.mk ((by rw [hg]; exact Nat.ne_of_lt (blk_lt (g := gb148) (o := .cells #[.slice A0_0 l0_0.length c0_0, .slice (some ad155) l0_1.length c0_1, .slice A0_2 l0_2.length c0_2] 26 (0, 0)) q10_) : gb148 ≠ gb156)); have n6_ := Aside0.mk ((by rw [hg]; exact Nat.ne_of_gt (blk_lt (g := gb148) (o := .cells #[.slice A0_0 l0_0.length c0_0, .slice (some ad155) l0_1.length c0_1, .slice A0_2 l0_2.length c0_2] 26 (0, 0)) q10_) : gb156 ≠ gb148)); clear BK148; clear HB; have BK148 := n0_; have HB := n1_; have BK156 := n2_; have GW156 := n3_; have GE156 := n4_; have NB148_156 := n5_; have NB156_148 := n6_; clear n0_ n1_ n2_ n3_ n4_ n5_ n6_; clear hb hbox hg; have hnb67 := NB156_148.out; have hnc67 := NB148_156.out; have hcz68_0 : w66.cell? ⟨gb156, 0, none⟩ = some (.int .i64 0) := (blk_cell BK156.out 0).trans rfl; have hcz68_1 : w66.cell? ⟨gb156, 1, none⟩ = some (.int .i64 0) := (blk_cell BK156.out 1).trans rfl; have hfz68_0 := blk_frozen BK156.out 0; have hfz68_1 := blk_frozen BK156.out 1)))
               go_ret
               exact ⟨by first | rfl | (simp [errW_none, errW_some] <;> rfl) | (simp [*, errW_none, errW_some] <;> rfl), by repeat (first | (with_reducible first | exact HB.out | apply below_alloc | apply pw_below_drewN | apply below_drew1 | refine below_set ?_ GE148.out | refine below_set ?_ GE156.out) | exact HB.out)⟩
              ·rw [if_neg c64] at H
               have c64b0 : decide ((wrap64 (2 * (wrap64 ((wrap64 (1 + (l0_0.length : Int))) + x5_3)))) ≤ ((rd_T54 l0_1 x5_3).f1)) = false := decide_eq_false c64
               clear c64
               have H' := Aside0.mk H
               clear H
               have hcz69_0 : wr.cell? ⟨gb148, 0, none⟩ = some (.slice A0_0 l0_0.length c0_0) := (blk_cell BK148.out 0).trans rfl
               have hcz69_1 : wr.cell? ⟨gb148, 1, none⟩ = some (.slice A0_1 l0_1.length c0_1) := (blk_cell BK148.out 1).trans rfl
               have hcz69_2 : wr.cell? ⟨gb148, 2, none⟩ = some (.slice A0_2 l0_2.length c0_2) := (blk_cell BK148.out 2).trans rfl
               have hfz69_0 := blk_frozen BK148.out 0
               have hfz69_1 := blk_frozen BK148.out 1
               have hfz69_2 := blk_frozen BK148.out 2
               have p155 : 0 ≤ (x5_3 : Int) := of_decide_eq_true q1_
               have q155 : x5_3 < (l0_1.length : Int) := of_decide_eq_true q1_
               obtain ⟨ad155, e155, hx155_0, hx155_1⟩ := at_T54 HR0_1.out x5_3 p155 q155
               cases e155
               replace hx155_0 := (HB.out.cell (World.block_lt_of_cell? w _ hx155_0)).trans hx155_0
               replace hx155_1 := (HB.out.cell (World.block_lt_of_cell? w _ hx155_1)).trans hx155_1
               replace p155 := eq_true p155
               replace q155 := eq_true q155
               go_wp2_with (first | ((with_reducible refine gate_dst (N := 7) rfl ?_); (try (refine gate_guard (by rfl) ?_; dsimp only)); refine box_event ?hg (N := 7) ?hd (cs := #[.int .i64 0, .int .i64 0]) (t := 54) ?hr ?_; (case hd => rfl); (case hg => rfl); (case hr => first | (go_simp; done) | (go_simp; rfl)); intro gb156 hg w70 hbox hb; have n0_ := Aside0.mk (blk_below (g := gb148) (o := .cells #[.slice A0_0 l0_0.length c0_0, .slice (some ad155) l0_1.length c0_1, .slice A0_2 l0_2.length c0_2] 26 (0, 0)) q10_ hb); have n1_ := Aside0.mk (below_step q6_ hb); have n2_ := Aside0.mk (hbox); have n3_ := Aside0.mk ((by rw [hg]; exact (below_size q6_) : w.heap.size ≤ gb156)); have n4_ := Aside0.mk ((by rw [hg]; exact (below_size q6_) : w.heap.size ≤ gb156)); have n5_ := Aside0.mk ((by rw [hg]; exact Nat.ne_of_lt (blk_lt (g := gb148) (o := .cells #[.slice A0_0 l0_0.length c0_0, .slice (some ad155) l0_1.length c0_1, .slice A0_2 l0_2.length c0_2] 26 (0, 0)) q10_) : gb148 ≠ gb156)); have n6_ := Aside0.mk ((by rw [hg]; exact Nat.ne_of_gt (blk_lt (g := gb148) (o := .cells #[.slice A0_0 l0_0.length c0_0, .slice (some ad155) l0_1.length c0_1, .slice A0_2 l0_2.length c0_2] 26 (0, 0)) q10_) : gb156 ≠ gb148)); clear BK148; clear HB; have BK148 := n0_; have HB := n1_; have BK156 := n2_; have GW156 := n3_; have GE156 := n4_; have NB148_156 := n5_; have NB156_148 := n6_; clear n0_ n1_ n2_ n3_ n4_ n5_ n6_; clear hb hbox hg; have hnb71 := NB156_148.out; have hnc71 := NB148_156.out; have hcz72_0 : w70.cell? ⟨gb156, 0, none⟩ = some (.int .i64 0) := (blk_cell BK156.out 0).trans rfl; have hcz72_1 : w70.cell? ⟨gb156, 1, none⟩ = some (.int .i64 0) := (blk_cell BK156.out 1).trans rfl; have hfz72_0 := blk_frozen BK156.out 0; have hfz72_1 := blk_frozen BK156.out 1))
               repeat (go_quiet (first | ((with_reducible refine gate_dst (N := 7) rfl ?_); (try (refine gate_guard (by rfl) ?_; dsimp only)); refine box_event ?hg (N := 7) ?hd (cs := #[.int .i64 0, .int .i64 0]) (t := 54) ?hr ?_; (case hd => rfl); (case hg => rfl); (case hr => first | (go_simp; done) | (go_simp; rfl)); intro gb156 hg w70 hbox hb; have n0_ := Aside0.mk (blk_below (g := gb148) (o := .cells #[.slice A0_0 l0_0.length c0_0, .slice (some ad155) l0_1.length c0_1, .slice A0_2 l0_2.length c0_2] 26 (0, 0)) q10_ hb); have n1_ := Aside0.mk (below_step q6_ hb); have n2_ := Aside0.mk (hbox); have n3_ := Aside0.mk ((by rw [hg]; exact (below_size q6_) : w.heap.size ≤ gb156)); have n4_ := Aside0.mk ((by rw [hg]; exact (below_size q6_) : w.heap.size ≤ gb156)); have n5_ := Aside0.mk ((by rw [hg]; exact Nat.ne_of_lt (blk_lt (g := gb148) (o := .cells #[.slice A0_0 l0_0.length c0_0, .slice (some ad155) l0_1.length c0_1, .slice A0_2 l0_2.length c0_2] 26 (0, 0)) q10_) : gb148 ≠ gb156)); have n6_ := Aside0.mk ((by rw [hg]; exact Nat.ne_of_gt (blk_lt (g := gb148) (o := .cells #[.slice A0_0 l0_0.length c0_0, .slice (some ad155) l0_1.length c0_1, .slice A0_2 l0_2.length c0_2] 26 (0, 0)) q10_) : gb156 ≠ gb148)); clear BK148; clear HB; have BK148 := n0_; have HB := n1_; have BK156 := n2_; have GW156 := n3_; have GE156 := n4_; have NB148_156 := n5_; have NB156_148 := n6_; clear n0_ n1_ n2_ n3_ n4_ n5_ n6_; clear hb hbox hg; have hnb71 := NB156_148.out; have hnc71 := NB148_156.out; have hcz72_0 : w70.cell? ⟨gb156, 0, none⟩ = some (.int .i64 0) := (blk_cell BK156.out 0).trans rfl; have hcz72_1 : w70.cell? ⟨gb156, 1, none⟩ = some (.int .i64 0) := (blk_cell BK156.out 1).trans rfl; have hfz72_0 := blk_frozen BK156.out 0; have hfz72_1 := blk_frozen BK156.out 1)); try go_wp2_with (first | ((with_reducible refine gate_dst (N := 7) rfl ?_); (try (refine gate_guard (by rfl) ?_; dsimp only)); refine box_event ?hg (N := 7) ?hd (cs := #[.int .i64 0, .int .i64 0]) (t := 54) ?hr ?_; (case hd => rfl); (case hg => rfl); (case hr => first | (go_simp; done) | (go_simp; rfl)); intro gb156 hg w70 hbox hb; have n0_ := Aside0.mk (blk_below (g := gb148) (o := .cells #[.slice A0_0 l0_0.length c0_0, .slice (some ad155) l0_1.length c0_1, .slice A0_2 l0_2.length c0_2] 26 (0, 0)) q10_ hb); have n1_ := Aside0.mk (below_step q6_ hb); have n2_ := Aside0.mk (hbox); have n3_ := Aside0.mk ((by rw [hg]; exact (below_size q6_) : w.heap.size ≤ gb156)); have n4_ := Aside0.mk ((by rw [hg]; exact (below_size q6_) : w.heap.size ≤ gb156)); have n5_ := Aside0.mk ((by rw [hg]; exact Nat.ne_of_lt (blk_lt (g := gb148) (o := .cells #[.slice A0_0 l0_0.length c0_0, .slice (some ad155) l0_1.length c0_1, .slice A0_2 l0_2.length c0_2] 26 (0, 0)) q10_) : gb148 ≠ gb156)); have n6_ := Aside0.mk ((by rw [hg]; exact Nat.ne_of_gt (blk_lt (g := gb148) (o := .cells #[.slice A0_0 l0_0.length c0_0, .slice (some ad155) l0_1.length c0_1, .slice A0_2 l0_2.length c0_2] 26 (0, 0)) q10_) : gb156 ≠ gb148)); clear BK148; clear HB; have BK148 := n0_; have HB := n1_; have BK156 := n2_; have GW156 := n3_; have GE156 := n4_; have NB148_156 := n5_; have NB156_148 := n6_; clear n0_ n1_ n2_ n3_ n4_ n5_ n6_; clear hb hbox hg; have hnb71 := NB156_148.out; have hnc71 := NB148_156.out; have hcz72_0 : w70.cell? ⟨gb156, 0, none⟩ = some (.int .i64 0) := (blk_cell BK156.out 0).trans rfl; have hcz72_1 : w70.cell? ⟨gb156, 1, none⟩ = some (.int .i64 0) := (blk_cell BK156.out 1).trans rfl; have hfz72_0 := blk_frozen BK156.out 0; have hfz72_1 := blk_frozen BK156.out 1)))
               go_roundg k3
               case measure => have := HJ1.out; have := HK2.out; have := HK3.out; omega
               case rel => exact ⟨(wrap64 (x5_3 + 1)), q13_, H', ⟨by have := HJ1.out; have := HK2.out; have := HK3.out; omega⟩, ⟨by (with_reducible repeat (first | refine blk_drewN ?_ _ | refine blk_drew ?_ | refine blk_alloc ?_ _)); refine blk_far ?_ NB148_156.out _; (with_reducible repeat (first | refine blk_drewN ?_ _ | refine blk_drew ?_ | refine blk_alloc ?_ _)); refine blk_far ?_ NB148_156.out _; (with_reducible repeat (first | refine blk_drewN ?_ _ | refine blk_drew ?_ | refine blk_alloc ?_ _)); exact BK148.out⟩, ⟨by repeat (first | (with_reducible first | exact HB.out | apply below_alloc | apply pw_below_drewN | apply below_drew1 | refine below_set ?_ GE148.out | refine below_set ?_ GE156.out) | exact HB.out)⟩⟩
          ·rw [if_neg c48] at H
           exact absurd H (by simp)
         ·rw [if_neg c47] at H
          have c47b0 : decide (x5_3 < (l0_1.length : Int)) = false := decide_eq_false c47
          clear c47
          have H' := Aside0.mk H
          clear H
          have hcz73_0 : wr.cell? ⟨gb148, 0, none⟩ = some (.slice A0_0 l0_0.length c0_0) := (blk_cell BK148.out 0).trans rfl
          have hcz73_1 : wr.cell? ⟨gb148, 1, none⟩ = some (.slice A0_1 l0_1.length c0_1) := (blk_cell BK148.out 1).trans rfl
          have hcz73_2 : wr.cell? ⟨gb148, 2, none⟩ = some (.slice A0_2 l0_2.length c0_2) := (blk_cell BK148.out 2).trans rfl
          have hfz73_0 := blk_frozen BK148.out 0
          have hfz73_1 := blk_frozen BK148.out 1
          have hfz73_2 := blk_frozen BK148.out 2
          go_wp2
          repeat (go_quiet (fail); try go_wp2)
          go_loopg [8] k3 (fun kq v8 w' => ∃ (x8_4 : Int), v8 = .int .i64 x8_4 ∧ Aside0 (retargetref04_Check.l2 kq x8_4 l0_0 l0_1 l0_2 = some r) ∧ Aside0 (kq ≤ k3) ∧ Aside0 (w'.heap[gb148]? = some (.cells #[(.slice A0_0 l0_0.length c0_0), (.slice A0_1 l0_1.length c0_1), (.slice A0_2 l0_2.length c0_2)] 26 (0, 0))) ∧ Aside0 (Below w.heap.size w w'))
          case atStart => exact ⟨(0), q13_, H', ⟨Nat.le_refl _⟩, ⟨by (with_reducible repeat (first | refine blk_drewN ?_ _ | refine blk_drew ?_ | refine blk_alloc ?_ _)); exact BK148.out⟩, ⟨by repeat (first | (with_reducible first | exact HB.out | apply below_alloc | apply pw_below_drewN | apply below_drew1 | refine below_set ?_ GE148.out) | exact HB.out)⟩⟩
          case round =>
           clear H'
           try clear c1
           try clear p1
           try clear q1
           try clear hx1
           try clear c2
           try clear p2
           try clear c3
           try clear c4
           try clear c4b0
           try clear c4b1
           try clear c5
           try clear c6
           try clear c6b0
           try clear c6b1
           try clear p6
           try clear c7
           try clear c9
           try clear c10
           try clear c10b0
           try clear c11
           try clear c11b0
           try clear p14
           try clear q14
           try clear hx14
           try clear c15
           try clear p15
           try clear q15
           try clear hx15
           try clear c17
           try clear c18
           try clear c19
           try clear c19b0
           try clear c20
           try clear c22
           try clear c24
           try clear c26
           try clear c27
           try clear c27b0
           try clear c29
           try clear c29b0
           try clear c30
           try clear c30b0
           try clear c31
           try clear c31b0
           try clear c32
           try clear c35
           try clear c35b0
           try clear c35b1
           try clear c36
           try clear c36b0
           try clear c37
           try clear c40
           try clear c43
           try clear c47
           try clear c47b0
           try clear c48
           try clear c48b0
           try clear c49
           try clear c49b0
           try clear c52
           try clear c54
           try clear c54b0
           try clear c57
           try clear c59
           try clear c59b0
           try clear c62
           try clear c64
           try clear c64b0
           try clear p64
           try clear c67
           try clear c71
           try clear hcz13_0
           try clear hcz13_1
           try clear hcz13_2
           try clear hcz16_0
           try clear hcz16_1
           try clear hcz21_0
           try clear hcz21_1
           try clear hcz23_0
           try clear hcz23_1
           try clear hcz25_0
           try clear hcz25_1
           try clear hcz33_0
           try clear hcz33_1
           try clear hcz33_2
           try clear hcz34_0
           try clear hcz34_1
           try clear hcz38_0
           try clear hcz38_1
           try clear hcz38_2
           try clear hcz39_0
           try clear hcz39_1
           try clear hcz41_0
           try clear hcz41_1
           try clear hcz41_2
           try clear hcz42_0
           try clear hcz42_1
           try clear hcz44_0
           try clear hcz44_1
           try clear hcz44_2
           try clear hcz45_0
           try clear hcz45_1
           try clear hcz46_0
           try clear hcz46_1
           try clear hcz46_2
           try clear hcz50_0
           try clear hcz50_1
           try clear hcz50_2
           try clear hcz53_0
           try clear hcz53_1
           try clear hcz55_0
           try clear hcz55_1
           try clear hcz55_2
           try clear hcz58_0
           try clear hcz58_1
           try clear hcz5_0
           try clear hcz5_1
           try clear hcz5_2
           try clear hcz60_0
           try clear hcz60_1
           try clear hcz60_2
           try clear hcz63_0
           try clear hcz63_1
           try clear hcz65_0
           try clear hcz65_1
           try clear hcz65_2
           try clear hcz68_0
           try clear hcz68_1
           try clear hcz69_0
           try clear hcz69_1
           try clear hcz69_2
           try clear hcz72_0
           try clear hcz72_1
           try clear hcz73_0
           try clear hcz73_1
           try clear hcz73_2
           try clear hcz7_0
           try clear hcz7_1
           try clear hcz7_2
           try clear hcz8_0
           try clear hcz8_1
           try clear hcz8_2
           try clear hfz13_0
           try clear hfz13_1
           try clear hfz13_2
           try clear hfz16_0
           try clear hfz16_1
           try clear hfz21_0
           try clear hfz21_1
           try clear hfz23_0
           try clear hfz23_1
           try clear hfz25_0
           try clear hfz25_1
           try clear hfz33_0
           try clear hfz33_1
           try clear hfz33_2
           try clear hfz34_0
           try clear hfz34_1
           try clear hfz38_0
           try clear hfz38_1
           try clear hfz38_2
           try clear hfz39_0
           try clear hfz39_1
           try clear hfz41_0
           try clear hfz41_1
           try clear hfz41_2
           try clear hfz42_0
           try clear hfz42_1
           try clear hfz44_0
           try clear hfz44_1
           try clear hfz44_2
           try clear hfz45_0
           try clear hfz45_1
           try clear hfz46_0
           try clear hfz46_1
           try clear hfz46_2
           try clear hfz50_0
           try clear hfz50_1
           try clear hfz50_2
           try clear hfz53_0
           try clear hfz53_1
           try clear hfz55_0
           try clear hfz55_1
           try clear hfz55_2
           try clear hfz58_0
           try clear hfz58_1
           try clear hfz5_0
           try clear hfz5_1
           try clear hfz5_2
           try clear hfz60_0
           try clear hfz60_1
           try clear hfz60_2
           try clear hfz63_0
           try clear hfz63_1
           try clear hfz65_0
           try clear hfz65_1
           try clear hfz65_2
           try clear hfz68_0
           try clear hfz68_1
           try clear hfz69_0
           try clear hfz69_1
           try clear hfz69_2
           try clear hfz72_0
           try clear hfz72_1
           try clear hfz73_0
           try clear hfz73_1
           try clear hfz73_2
           try clear hfz7_0
           try clear hfz7_1
           try clear hfz7_2
           try clear hfz8_0
           try clear hfz8_1
           try clear hfz8_2
           try clear hx149_0
           try clear hx149_1
           try clear hx152_0
           try clear hx152_1
           try clear hx153_0
           try clear hx153_1
           try clear hx154_0
           try clear hx154_1
           try clear hx155_0
           try clear hx155_1
           try clear p1
           try clear p14
           try clear p149
           try clear p15
           try clear p152
           try clear p153
           try clear p154
           try clear p155
           try clear p2
           try clear p6
           try clear q1
           try clear q14
           try clear q149
           try clear q15
           try clear q152
           try clear q153
           try clear q154
           try clear q155
           obtain ⟨x8_4, rfl, HA, HK4, BK148, HB⟩ := hrel
           cases gk with
           | zero => exact absurd HA.out (by simp [retargetref04_Check.l2])
           | succ k4 =>
            have H := HA.out
            clear HA
            simp only [retargetref04_Check.l2] at H
            by_cases c74 : x8_4 < (l0_2.length : Int)
            ·rw [if_pos c74] at H
             have c74b0 : decide (x8_4 < (l0_2.length : Int)) = true := decide_eq_true c74
             clear c74
             by_cases c75 : 0 ≤ x8_4
             ·rw [if_pos c75] at H
              have c75b0 : decide (0 ≤ x8_4) = true := decide_eq_true c75
              clear c75
              by_cases c76 : (rd l0_2 x8_4) < 0
              ·rw [if_pos c76] at H
               have c76b0 : decide ((rd l0_2 x8_4) < 0) = true := decide_eq_true c76
               clear c76
               obtain rfl := Option.some.inj H
               have hcz77_0 : wr.cell? ⟨gb148, 0, none⟩ = some (.slice A0_0 l0_0.length c0_0) := (blk_cell BK148.out 0).trans rfl
               have hcz77_1 : wr.cell? ⟨gb148, 1, none⟩ = some (.slice A0_1 l0_1.length c0_1) := (blk_cell BK148.out 1).trans rfl
               have hcz77_2 : wr.cell? ⟨gb148, 2, none⟩ = some (.slice A0_2 l0_2.length c0_2) := (blk_cell BK148.out 2).trans rfl
               have hfz77_0 := blk_frozen BK148.out 0
               have hfz77_1 := blk_frozen BK148.out 1
               have hfz77_2 := blk_frozen BK148.out 2
               have p157 : 0 ≤ (x8_4 : Int) := of_decide_eq_true q1_
               have q157 : x8_4 < (l0_2.length : Int) := of_decide_eq_true q1_
               obtain ⟨ad157, e157, hx157_0⟩ := Kd.at_int HR0_2.out x8_4 p157 q157
               cases e157
               replace hx157_0 := (HB.out.cell (World.block_lt_of_cell? w _ hx157_0)).trans hx157_0
               replace p157 := eq_true p157
               replace q157 := eq_true q157
               go_wp2
               repeat (go_quiet (fail); try go_wp2)
               go_ret
               exact ⟨by first | rfl | (simp [errW_none, errW_some] <;> rfl) | (simp [*, errW_none, errW_some] <;> rfl), by repeat (first | (with_reducible first | exact HB.out | apply below_alloc | apply pw_below_drewN | apply below_drew1 | refine below_set ?_ GE148.out) | exact HB.out)⟩
              ·rw [if_neg c76] at H
               have c76b0 : decide ((rd l0_2 x8_4) < 0) = false := decide_eq_false c76
               clear c76
               by_cases c78 : (rd l0_2 x8_4) ≥ (wrap64 (2 * (wrap64 ((wrap64 (1 + (l0_0.length : Int))) + (l0_1.length : Int)))))
               ·rw [if_pos c78] at H
                have c78b0 : decide ((wrap64 (2 * (wrap64 ((wrap64 (1 + (l0_0.length : Int))) + (l0_1.length : Int))))) ≤ (rd l0_2 x8_4)) = true := decide_eq_true c78
                clear c78
                obtain rfl := Option.some.inj H
                have hcz79_0 : wr.cell? ⟨gb148, 0, none⟩ = some (.slice A0_0 l0_0.length c0_0) := (blk_cell BK148.out 0).trans rfl
                have hcz79_1 : wr.cell? ⟨gb148, 1, none⟩ = some (.slice A0_1 l0_1.length c0_1) := (blk_cell BK148.out 1).trans rfl
                have hcz79_2 : wr.cell? ⟨gb148, 2, none⟩ = some (.slice A0_2 l0_2.length c0_2) := (blk_cell BK148.out 2).trans rfl
                have hfz79_0 := blk_frozen BK148.out 0
                have hfz79_1 := blk_frozen BK148.out 1
                have hfz79_2 := blk_frozen BK148.out 2
                have p157 : 0 ≤ (x8_4 : Int) := of_decide_eq_true q1_
                have q157 : x8_4 < (l0_2.length : Int) := of_decide_eq_true q1_
                obtain ⟨ad157, e157, hx157_0⟩ := Kd.at_int HR0_2.out x8_4 p157 q157
                cases e157
                replace hx157_0 := (HB.out.cell (World.block_lt_of_cell? w _ hx157_0)).trans hx157_0
                replace p157 := eq_true p157
                replace q157 := eq_true q157
                have p158 : 0 ≤ (x8_4 : Int) := of_decide_eq_true q1_
                have q158 : x8_4 < (l0_2.length : Int) := of_decide_eq_true q1_
                obtain ⟨ad158, e158, hx158_0⟩ := Kd.at_int HR0_2.out x8_4 p158 q158
                obtain rfl : ad157 = ad158 := (by injection e158)
                replace hx158_0 := (HB.out.cell (World.block_lt_of_cell? w _ hx158_0)).trans hx158_0
                replace p158 := eq_true p158
                replace q158 := eq_true q158
                go_wp2
                repeat (go_quiet (fail); try go_wp2)
                go_ret
                exact ⟨by first | rfl | (simp [errW_none, errW_some] <;> rfl) | (simp [*, errW_none, errW_some] <;> rfl), by repeat (first | (with_reducible first | exact HB.out | apply below_alloc | apply pw_below_drewN | apply below_drew1 | refine below_set ?_ GE148.out) | exact HB.out)⟩
               ·rw [if_neg c78] at H
                have c78b0 : decide ((wrap64 (2 * (wrap64 ((wrap64 (1 + (l0_0.length : Int))) + (l0_1.length : Int))))) ≤ (rd l0_2 x8_4)) = false := decide_eq_false c78
                clear c78
                have H' := Aside0.mk H
                clear H
                have hcz80_0 : wr.cell? ⟨gb148, 0, none⟩ = some (.slice A0_0 l0_0.length c0_0) := (blk_cell BK148.out 0).trans rfl
                have hcz80_1 : wr.cell? ⟨gb148, 1, none⟩ = some (.slice A0_1 l0_1.length c0_1) := (blk_cell BK148.out 1).trans rfl
                have hcz80_2 : wr.cell? ⟨gb148, 2, none⟩ = some (.slice A0_2 l0_2.length c0_2) := (blk_cell BK148.out 2).trans rfl
                have hfz80_0 := blk_frozen BK148.out 0
                have hfz80_1 := blk_frozen BK148.out 1
                have hfz80_2 := blk_frozen BK148.out 2
                have p157 : 0 ≤ (x8_4 : Int) := of_decide_eq_true q1_
                have q157 : x8_4 < (l0_2.length : Int) := of_decide_eq_true q1_
                obtain ⟨ad157, e157, hx157_0⟩ := Kd.at_int HR0_2.out x8_4 p157 q157
                cases e157
                replace hx157_0 := (HB.out.cell (World.block_lt_of_cell? w _ hx157_0)).trans hx157_0
                replace p157 := eq_true p157
                replace q157 := eq_true q157
                have p158 : 0 ≤ (x8_4 : Int) := of_decide_eq_true q1_
                have q158 : x8_4 < (l0_2.length : Int) := of_decide_eq_true q1_
                obtain ⟨ad158, e158, hx158_0⟩ := Kd.at_int HR0_2.out x8_4 p158 q158
                obtain rfl : ad157 = ad158 := (by injection e158)
                replace hx158_0 := (HB.out.cell (World.block_lt_of_cell? w _ hx158_0)).trans hx158_0
                replace p158 := eq_true p158
                replace q158 := eq_true q158
                go_wp2
                repeat (go_quiet (fail); try go_wp2)
                go_roundg k4
                case measure => have := HJ1.out; have := HK2.out; have := HK3.out; have := HK4.out; omega
                case rel => exact ⟨(wrap64 (x8_4 + 1)), q13_, H', ⟨by have := HJ1.out; have := HK2.out; have := HK3.out; have := HK4.out; omega⟩, ⟨by (with_reducible repeat (first | refine blk_drewN ?_ _ | refine blk_drew ?_ | refine blk_alloc ?_ _)); exact BK148.out⟩, ⟨by repeat (first | (with_reducible first | exact HB.out | apply below_alloc | apply pw_below_drewN | apply below_drew1 | refine below_set ?_ GE148.out) | exact HB.out)⟩⟩
             ·rw [if_neg c75] at H
              exact absurd H (by simp)
            ·rw [if_neg c74] at H
             have c74b0 : decide (x8_4 < (l0_2.length : Int)) = false := decide_eq_false c74
             clear c74
             obtain rfl := Option.some.inj H
             have hcz81_0 : wr.cell? ⟨gb148, 0, none⟩ = some (.slice A0_0 l0_0.length c0_0) := (blk_cell BK148.out 0).trans rfl
             have hcz81_1 : wr.cell? ⟨gb148, 1, none⟩ = some (.slice A0_1 l0_1.length c0_1) := (blk_cell BK148.out 1).trans rfl
             have hcz81_2 : wr.cell? ⟨gb148, 2, none⟩ = some (.slice A0_2 l0_2.length c0_2) := (blk_cell BK148.out 2).trans rfl
             have hfz81_0 := blk_frozen BK148.out 0
             have hfz81_1 := blk_frozen BK148.out 1
             have hfz81_2 := blk_frozen BK148.out 2
             go_wp2
             repeat (go_quiet (fail); try go_wp2)
             go_ret
             exact ⟨by first | rfl | (simp [errW_none, errW_some] <;> rfl) | (simp [*, errW_none, errW_some] <;> rfl), by repeat (first | (with_reducible first | exact HB.out | apply below_alloc | apply pw_below_drewN | apply below_drew1 | refine below_set ?_ GE148.out) | exact HB.out)⟩

end Go.Proofs.Ytjapfakpfoeaiaa.MBlastRuns
