/- Functions of the program as Lean functions, and of each a proof that the Go code comes to just its answers. Laid for this claim by wip/drive.py of this repo (our driver over the kit's printing program); no text of print.sh. No condition. -/
import Derived.Test.YtjapfakpfoeaiaaCBlastRunsMBlastRunsx0
import Derived.Test.YtjapfakpfoeaiaaCBlastRunsMBlastRunsx3
import Derived.Test.YtjapfakpfoeaiaaCBlastRunsMBlastRunsx4
import Derived.Test.YtjapfakpfoeaiaaCBlastRunsMBlastRunsx5
import Derived.Test.YtjapfakpfoeaiaaCBlastRunsMBlastRunsx6
import Derived.Test.YtjapfakpfoeaiaaCBlastRunsMBlastRunsx8
import Derived.Test.YtjapfakpfoeaiaaCBlastRunsMBlastRunsx11
import Derived.Test.YtjapfakpfoeaiaaCBlastRunsMBlastRunsx12
import Derived.Test.YtjapfakpfoeaiaaCBlastRunsMBlastRunsx13
import Derived.Test.YtjapfakpfoeaiaaCBlastRunsMBlastRunsx16
import Derived.Test.YtjapfakpfoeaiaaCBlastRunsHBlastRunsRun
namespace Go.Proofs.Ytjapfakpfoeaiaa.MBlastRuns
open Go.Proofs.Ytjapfakpfoeaiaa.Zed Go.RowKit Go.Proofs.YtjapfakpfoeaiaaW.PrintWords Go.Proofs.YtjapfakpfoeaiaaW.PrintLast Go.Proofs.YtjapfakpfoeaiaaW.PrintMore
attribute [local go_sem] max2_int min2_int max_two min_two max_three min_three max_four min_four   -- for this text's walks alone
set_option linter.unusedVariables false
set_option linter.unusedSimpArgs false

/-! ### retargetlaw04_BlastRuns: function 4 -/
def retargetlaw04_BlastRuns.j0 : Nat → List Bool → List (S59) → Bool → List (S52) → List (S54) → List Int → Option (Bool)
 | 0, _, _, _, _, _, _ => none
 | k + 1, x1, x2, x26, x247000, x247001, x247002 => if x26 = true then (some true) else ((retargetref04_Twin.f x247000 x247001 x247002).bind fun bt249 => ((blast_Run.f k bt249.1 bt249.2.1 bt249.2.2 x1).bind fun bt259 => ((retargetref04_Run.f k x247000 x247001 x247002 x1).bind fun bt263 => ((blast_Inputs.f k bt249.1 bt249.2.1 bt249.2.2 x2).bind fun bt267 => ((retargetref04_Inputs.f k x247000 x247001 x247002 x2).bind fun bt271 => ((blast_Check.f k bt249.1 bt249.2.1 bt249.2.2).bind fun t275 => ((retargetref04_Check.f k x247000 x247001 x247002).bind fun t276 => (if t275 = t276 then ((retargetref04_SameBools.f k bt259.1 bt263.1).bind fun t277 => (if t277 = true then (if bt259.2 = bt263.2 then ((retargetref04_SameBools.f k bt267.1 bt271.1).bind fun t278 => (if t278 = true then (if bt267.2 = bt271.2 then ((retargetref04_Same.f k bt249.1 bt249.2.1 bt249.2.2 x247000 x247001 x247002).bind fun t279 => (some t279)) else (some false)) else (some false))) else (some false)) else (some false))) else (some false)))))))))
def retargetlaw04_BlastRuns.f (k : Nat) (l0_0 : List (S52)) (l0_1 : List (S54)) (l0_2 : List Int) (l1 : List Bool) (l2 : List (S59)) : Option (Bool) := (retargetref04_Great.f k l0_0 l0_1 l0_2).bind fun t247 => (if t247 = true then (retargetlaw04_BlastRuns.j0 k l1 l2 true l0_0 l0_1 l0_2) else (if (l1.length : Int) > 700 then (retargetlaw04_BlastRuns.j0 k l1 l2 true l0_0 l0_1 l0_2) else ((retargetref02_GreatBound.f k l2 ([] : List (S95))).bind fun t248 => (retargetlaw04_BlastRuns.j0 k l1 l2 t248 l0_0 l0_1 l0_2))))
theorem retargetlaw04_BlastRuns.mono_l : ∀ k, (∀ y0 y1 y2 y3 y4 y5, LeO (retargetlaw04_BlastRuns.j0 k y0 y1 y2 y3 y4 y5) (retargetlaw04_BlastRuns.j0 (k + 1) y0 y1 y2 y3 y4 y5))
 | 0 => fun _ _ _ _ _ _ r h => by simp [retargetlaw04_BlastRuns.j0] at h
 | k + 1 => by
  have ih0 := retargetlaw04_BlastRuns.mono_l k
  ·intro y0 y1 y2 y3 y4 y5
   unfold retargetlaw04_BlastRuns.j0
   repeat' first
   | (with_reducible exact ih0 _ _ _ _ _ _)
   | (with_reducible exact blast_Check.mono _ _ _ _)
   | (with_reducible exact blast_Inputs.mono _ _ _ _ _)
   | (with_reducible exact blast_Run.mono _ _ _ _ _)
   | (with_reducible exact retargetref02_GreatBound.mono _ _ _)
   | (with_reducible exact retargetref04_Check.mono _ _ _ _)
   | (with_reducible exact retargetref04_Great.mono _ _ _ _)
   | (with_reducible exact retargetref04_Inputs.mono _ _ _ _ _)
   | (with_reducible exact retargetref04_Run.mono _ _ _ _ _)
   | (with_reducible exact retargetref04_Same.mono _ _ _ _ _ _ _)
   | (with_reducible exact retargetref04_SameBools.mono _ _ _)
   | (with_reducible exact LeO.refl _)
   | (with_reducible exact LeO.none _)
   | (with_reducible refine LeO.ite ?_ ?_)
   | (with_reducible refine LeO.bind ?_ (fun _ => ?_))
   | exact ih0 _ _ _ _ _ _
   | exact blast_Check.mono _ _ _ _
   | exact blast_Inputs.mono _ _ _ _ _
   | exact blast_Run.mono _ _ _ _ _
   | exact retargetref02_GreatBound.mono _ _ _
   | exact retargetref04_Check.mono _ _ _ _
   | exact retargetref04_Great.mono _ _ _ _
   | exact retargetref04_Inputs.mono _ _ _ _ _
   | exact retargetref04_Run.mono _ _ _ _ _
   | exact retargetref04_Same.mono _ _ _ _ _ _ _
   | exact retargetref04_SameBools.mono _ _ _
   | exact LeO.none _
   | refine LeO.ite ?_ ?_
   | refine LeO.bind ?_ (fun _ => ?_)
theorem retargetlaw04_BlastRuns.mono : ∀ a0 a1 a2 a3 a4 k, LeO (retargetlaw04_BlastRuns.f k a0 a1 a2 a3 a4) (retargetlaw04_BlastRuns.f (k + 1) a0 a1 a2 a3 a4) := by
 intro a0 a1 a2 a3 a4 k
 have ih0 := retargetlaw04_BlastRuns.mono_l k
 unfold retargetlaw04_BlastRuns.f
 repeat' first
   | (with_reducible exact ih0 _ _ _ _ _ _)
   | (with_reducible exact blast_Check.mono _ _ _ _)
   | (with_reducible exact blast_Inputs.mono _ _ _ _ _)
   | (with_reducible exact blast_Run.mono _ _ _ _ _)
   | (with_reducible exact retargetref02_GreatBound.mono _ _ _)
   | (with_reducible exact retargetref04_Check.mono _ _ _ _)
   | (with_reducible exact retargetref04_Great.mono _ _ _ _)
   | (with_reducible exact retargetref04_Inputs.mono _ _ _ _ _)
   | (with_reducible exact retargetref04_Run.mono _ _ _ _ _)
   | (with_reducible exact retargetref04_Same.mono _ _ _ _ _ _ _)
   | (with_reducible exact retargetref04_SameBools.mono _ _ _)
   | (with_reducible exact LeO.refl _)
   | (with_reducible exact LeO.none _)
   | (with_reducible refine LeO.ite ?_ ?_)
   | (with_reducible refine LeO.bind ?_ (fun _ => ?_))
   | exact ih0 _ _ _ _ _ _
   | exact blast_Check.mono _ _ _ _
   | exact blast_Inputs.mono _ _ _ _ _
   | exact blast_Run.mono _ _ _ _ _
   | exact retargetref02_GreatBound.mono _ _ _
   | exact retargetref04_Check.mono _ _ _ _
   | exact retargetref04_Great.mono _ _ _ _
   | exact retargetref04_Inputs.mono _ _ _ _ _
   | exact retargetref04_Run.mono _ _ _ _ _
   | exact retargetref04_Same.mono _ _ _ _ _ _ _
   | exact retargetref04_SameBools.mono _ _ _
   | exact LeO.none _
   | refine LeO.ite ?_ ?_
   | refine LeO.bind ?_ (fun _ => ?_)
def retargetlaw04_BlastRuns.T8 : Bool × List (List Nat × List Nat) := (true, [([], []), ([0], [0]), ([], []), ([2, 1], [2]), ([1, 3], [1, 3]), ([4, 3], [4]), ([5], [5]), ([5], [5]), ([6, 7, 5, 5], [5, 6, 7]), ([5, 8], [5, 8]), ([9, 8], [9]), ([10], [10]), ([10], [10]), ([11, 12, 10], [10, 11, 12]), ([10, 13], [10, 13]), ([14, 10], [14]), ([15], [15]), ([15], [15]), ([16, 17, 15, 15], [15, 16, 17]), ([15, 18], [15, 18]), ([19, 18], [19]), ([20], [20]), ([20], [20]), ([21, 22, 20], [20, 21, 22]), ([20, 23], [20, 23]), ([24, 20], [24]), ([25], [25]), ([25], [25]), ([26, 27, 25, 25], [25, 26, 27]), ([25, 28], [25, 28]), ([29, 28, 0, 1, 2, 3, 4, 5, 6, 7, 8, 9, 10, 11, 12, 13, 14, 15, 16, 17, 18, 19, 20, 21, 22, 23, 24, 25, 26, 27, 28, 29], [29])])
def retargetlaw04_BlastRuns.B8 : List Nat := [0, 1, 0, 7, 15, 31, 63, 63, 255, 511, 1023, 2047, 2047, 8191, 16383, 32767, 65535, 65535, 262143, 524287, 1048575, 2097151, 2097151, 8388607, 16777215, 33554431, 67108863, 67108863, 268435455, 536870911, 1073741823]
theorem retargetlaw04_BlastRuns.tab8 : rtab .any (opsOf Try.f4 8) = retargetlaw04_BlastRuns.T8 := by kernel_rfl
theorem retargetlaw04_BlastRuns.bits8 : waitsOk retargetlaw04_BlastRuns.T8.2 retargetlaw04_BlastRuns.B8 = true := by kernel_rfl
set_option maxHeartbeats 8000000 in
set_option maxRecDepth 100000 in
theorem retargetlaw04_BlastRuns.calls (k : Nat) (A0_0 : Option Addr) (c0_0 : Nat) (l0_0 : List (S52)) (A0_1 : Option Addr) (c0_1 : Nat) (l0_1 : List (S54)) (A0_2 : Option Addr) (c0_2 : Nat) (l0_2 : List Int) (A1 : Option Addr) (c1 : Nat) (l1 : List Bool) (A2 : Option Addr) (c2 : Nat) (l2 : List (S59)) (r : Bool) (w : World) (hr0_0 : Kd.C k52 w A0_0 l0_0.length l0_0) (hc0_0 : l0_0.length ≤ c0_0) (hr0_1 : Kd.C k54 w A0_1 l0_1.length l0_1) (hc0_1 : l0_1.length ≤ c0_1) (hr0_2 : Kd.C (Kd.int .i64) w A0_2 l0_2.length l0_2) (hc0_2 : l0_2.length ≤ c0_2) (hr1 : Kd.C Kd.bool w A1 l1.length l1) (hc1 : l1.length ≤ c1) (hr2 : Kd.C k59 w A2 l2.length l2) (hc2 : l2.length ≤ c2) (h : retargetlaw04_BlastRuns.f k l0_0 l0_1 l0_2 l1 l2 = some r) :
  Calls Try.prog 4 #[.agg #[.slice A0_0 l0_0.length c0_0, .slice A0_1 l0_1.length c0_1, .slice A0_2 l0_2.length c0_2], .slice A1 l1.length c1, .slice A2 l2.length c2] w fun e w' => e = .returned (.bool r) ∧ Below w.heap.size w w' := by
 have hu26 := Try.underlying26
 have HR0_0 := Aside0.mk hr0_0
 have HC0_0 := Aside0.mk hc0_0
 clear hr0_0 hc0_0
 have HR0_1 := Aside0.mk hr0_1
 have HC0_1 := Aside0.mk hc0_1
 clear hr0_1 hc0_1
 have HR0_2 := Aside0.mk hr0_2
 have HC0_2 := Aside0.mk hc0_2
 clear hr0_2 hc0_2
 have HR1 := Aside0.mk hr1
 have HC1 := Aside0.mk hc1
 clear hr1 hc1
 have HR2 := Aside0.mk hr2
 have HC2 := Aside0.mk hc2
 clear hr2 hc2
 have HB := Aside0.mk (Below.refl w.heap.size w)
 have H : ((retargetref04_Great.f k l0_0 l0_1 l0_2).bind fun t247 => (if t247 = true then (retargetlaw04_BlastRuns.j0 k l1 l2 true l0_0 l0_1 l0_2) else (if (l1.length : Int) > 700 then (retargetlaw04_BlastRuns.j0 k l1 l2 true l0_0 l0_1 l0_2) else ((retargetref02_GreatBound.f k l2 ([] : List (S95))).bind fun t248 => (retargetlaw04_BlastRuns.j0 k l1 l2 t248 l0_0 l0_1 l0_2))))) = some r := h
 clear h
 have HC4 := Aside0.mk H
 clear H
 go_enter Try.func4, Try.ntmps4
 go_upto_region 1 with (first | ((with_reducible refine gate_dst (N := 3) rfl ?_); (try (refine gate_guard (by rfl) ?_; dsimp only)); refine box_event ?hg (N := 3) ?hd (cs := #[.slice A0_0 l0_0.length c0_0, .slice A0_1 l0_1.length c0_1, .slice A0_2 l0_2.length c0_2]) (t := 26) ?hr ?_; (case hd => rfl); (case hg => rfl); (case hr => first | (go_simp; done) | (go_simp; rfl)); intro gb246 hg w5 hbox hb; have n0_ := Aside0.mk (below_step q0_ hb); have n1_ := Aside0.mk (hbox); have n2_ := Aside0.mk ((by rw [hg]; exact (below_size q0_) : w.heap.size ≤ gb246)); have n3_ := Aside0.mk ((by rw [hg]; exact (below_size q0_) : w.heap.size ≤ gb246)); clear HB; have HB := n0_; have BK246 := n1_; have GW246 := n2_; have GE246 := n3_; clear n0_ n1_ n2_ n3_; clear hb hbox hg))
 (try simp only [Act.put, List.setIfInBounds_toArray, List.set_cons_zero, List.set_cons_succ])
 go_cut [26] (fun v26 wc => ∃ (kq : Nat) (x26_3 : Bool), v26 = .bool x26_3 ∧ Aside0 (retargetlaw04_BlastRuns.j0 kq l1 l2 x26_3 l0_0 l0_1 l0_2 = some r) ∧ Aside0 (kq ≤ k) ∧ Aside0 (wc.heap[gb246]? = some (.cells #[(.slice A0_0 l0_0.length c0_0), (.slice A0_1 l0_1.length c0_1), (.slice A0_2 l0_2.length c0_2)] 26 (0, 0))) ∧ Aside0 (Below w.heap.size w wc))
 case first =>
  have H := HC4.out
  clear HC4
  replace H := Option.bind_eq_some_iff.mp H
  obtain ⟨t247, A60, H⟩ := H
  replace H : (if t247 = true then (retargetlaw04_BlastRuns.j0 k l1 l2 true l0_0 l0_1 l0_2) else (if (l1.length : Int) > 700 then (retargetlaw04_BlastRuns.j0 k l1 l2 true l0_0 l0_1 l0_2) else ((retargetref02_GreatBound.f k l2 ([] : List (S95))).bind fun t248 => (retargetlaw04_BlastRuns.j0 k l1 l2 t248 l0_0 l0_1 l0_2)))) = some r := H
  have A6 := Aside0.mk A60
  clear A60
  by_cases c7 : t247 = true
  ·subst c7
   have H1 : (retargetlaw04_BlastRuns.j0 k l1 l2 true l0_0 l0_1 l0_2) = some r := by rw [if_pos rfl] at H; exact H
   clear H
   have H := H1
   clear H1
   have H' := Aside0.mk H
   clear H
   have hcz8_0 : w5.cell? ⟨gb246, 0, none⟩ = some (.slice A0_0 l0_0.length c0_0) := (blk_cell BK246.out 0).trans rfl
   have hcz8_1 : w5.cell? ⟨gb246, 1, none⟩ = some (.slice A0_1 l0_1.length c0_1) := (blk_cell BK246.out 1).trans rfl
   have hcz8_2 : w5.cell? ⟨gb246, 2, none⟩ = some (.slice A0_2 l0_2.length c0_2) := (blk_cell BK246.out 2).trans rfl
   have hfz8_0 := blk_frozen BK246.out 0
   have hfz8_1 := blk_frozen BK246.out 1
   have hfz8_2 := blk_frozen BK246.out 2
   go_wp2_with (first | ((with_reducible refine gate_callee (f := 5) rfl ?_); refine goesL_ (some 17) rfl rfl Try.func5 q37_ rfl #[.agg #[.slice A0_0 l0_0.length c0_0, .slice A0_1 l0_1.length c0_1, .slice A0_2 l0_2.length c0_2]] rfl q2_ ?_; (with_reducible refine (retargetref04_Great.calls k _ _ l0_0 _ _ l0_1 _ _ l0_2 true _ ?side1 ?side2 ?side3 ?side4 ?side5 ?side6 A6.out).mono ?_); (case side1 => repeat (first | exact (Kd.C_below HR0_0.out HB.out) | (with_reducible refine Kd.C_alloc ?_ _) | (with_reducible refine Kd.C_drewN ?_ _) | (with_reducible refine Kd.C_drew ?_))); (case side2 => exact HC0_0.out); (case side3 => repeat (first | exact (Kd.C_below HR0_1.out HB.out) | (with_reducible refine Kd.C_alloc ?_ _) | (with_reducible refine Kd.C_drewN ?_ _) | (with_reducible refine Kd.C_drew ?_))); (case side4 => exact HC0_1.out); (case side5 => repeat (first | exact (Kd.C_below HR0_2.out HB.out) | (with_reducible refine Kd.C_alloc ?_ _) | (with_reducible refine Kd.C_drewN ?_ _) | (with_reducible refine Kd.C_drew ?_))); (case side6 => exact HC0_2.out); rintro e w9 ⟨rfl, hb⟩; refine ⟨_, rfl, ?_⟩; have n0_ := Aside0.mk (blk_below (g := gb246) (o := .cells #[.slice A0_0 l0_0.length c0_0, .slice A0_1 l0_1.length c0_1, .slice A0_2 l0_2.length c0_2] 26 (0, 0)) q8_ hb); have n1_ := Aside0.mk (below_step q7_ hb); clear BK246; clear HB; have BK246 := n0_; have HB := n1_; clear n0_ n1_; (try clear hb); (try clear hb2); (try clear hk); (try clear hi)))
   go_meet
   case rel => exact ⟨_, (true), q13_, H', ⟨by first | omega | exact Nat.le_refl _⟩, ⟨by (with_reducible repeat (first | refine blk_drewN ?_ _ | refine blk_drew ?_ | refine blk_alloc ?_ _)); exact BK246.out⟩, ⟨by repeat (first | (with_reducible first | exact HB.out | apply below_alloc | apply pw_below_drewN | apply below_drew1 | refine below_set ?_ GE246.out) | exact HB.out)⟩⟩
  ·replace c7 := Bool.eq_false_iff.mpr c7
   subst c7
   have H1 : (if (l1.length : Int) > 700 then (retargetlaw04_BlastRuns.j0 k l1 l2 true l0_0 l0_1 l0_2) else ((retargetref02_GreatBound.f k l2 ([] : List (S95))).bind fun t248 => (retargetlaw04_BlastRuns.j0 k l1 l2 t248 l0_0 l0_1 l0_2))) = some r := by rw [if_neg (show ¬ (false = true) by decide)] at H; exact H
   clear H
   have H := H1
   clear H1
   by_cases c10 : (l1.length : Int) > 700
   ·rw [if_pos c10] at H
    have c10b0 : decide (700 < (l1.length : Int)) = true := decide_eq_true c10
    have c10b1 : decide (700 < l1.length) = true := decide_eq_true (by omega)
    clear c10
    (first | rw [c10b0] | (simp only [i64_w, i32_w]; rw [c10b0]) | skip)
    have H' := Aside0.mk H
    clear H
    have hcz11_0 : w5.cell? ⟨gb246, 0, none⟩ = some (.slice A0_0 l0_0.length c0_0) := (blk_cell BK246.out 0).trans rfl
    have hcz11_1 : w5.cell? ⟨gb246, 1, none⟩ = some (.slice A0_1 l0_1.length c0_1) := (blk_cell BK246.out 1).trans rfl
    have hcz11_2 : w5.cell? ⟨gb246, 2, none⟩ = some (.slice A0_2 l0_2.length c0_2) := (blk_cell BK246.out 2).trans rfl
    have hfz11_0 := blk_frozen BK246.out 0
    have hfz11_1 := blk_frozen BK246.out 1
    have hfz11_2 := blk_frozen BK246.out 2
    go_wp2_with (first | ((with_reducible refine gate_callee (f := 5) rfl ?_); refine goesL_ (some 17) rfl rfl Try.func5 q37_ rfl #[.agg #[.slice A0_0 l0_0.length c0_0, .slice A0_1 l0_1.length c0_1, .slice A0_2 l0_2.length c0_2]] rfl q2_ ?_; (with_reducible refine (retargetref04_Great.calls k _ _ l0_0 _ _ l0_1 _ _ l0_2 false _ ?side1 ?side2 ?side3 ?side4 ?side5 ?side6 A6.out).mono ?_); (case side1 => repeat (first | exact (Kd.C_below HR0_0.out HB.out) | (with_reducible refine Kd.C_alloc ?_ _) | (with_reducible refine Kd.C_drewN ?_ _) | (with_reducible refine Kd.C_drew ?_))); (case side2 => exact HC0_0.out); (case side3 => repeat (first | exact (Kd.C_below HR0_1.out HB.out) | (with_reducible refine Kd.C_alloc ?_ _) | (with_reducible refine Kd.C_drewN ?_ _) | (with_reducible refine Kd.C_drew ?_))); (case side4 => exact HC0_1.out); (case side5 => repeat (first | exact (Kd.C_below HR0_2.out HB.out) | (with_reducible refine Kd.C_alloc ?_ _) | (with_reducible refine Kd.C_drewN ?_ _) | (with_reducible refine Kd.C_drew ?_))); (case side6 => exact HC0_2.out); rintro e w12 ⟨rfl, hb⟩; refine ⟨_, rfl, ?_⟩; have n0_ := Aside0.mk (blk_below (g := gb246) (o := .cells #[.slice A0_0 l0_0.length c0_0, .slice A0_1 l0_1.length c0_1, .slice A0_2 l0_2.length c0_2] 26 (0, 0)) q8_ hb); have n1_ := Aside0.mk (below_step q7_ hb); clear BK246; clear HB; have BK246 := n0_; have HB := n1_; clear n0_ n1_; (try clear hb); (try clear hb2); (try clear hk); (try clear hi)))
    go_meet
    case rel => exact ⟨_, (true), q13_, H', ⟨by first | omega | exact Nat.le_refl _⟩, ⟨by (with_reducible repeat (first | refine blk_drewN ?_ _ | refine blk_drew ?_ | refine blk_alloc ?_ _)); exact BK246.out⟩, ⟨by repeat (first | (with_reducible first | exact HB.out | apply below_alloc | apply pw_below_drewN | apply below_drew1 | refine below_set ?_ GE246.out) | exact HB.out)⟩⟩
   ·rw [if_neg c10] at H
    have c10b0 : decide (700 < (l1.length : Int)) = false := decide_eq_false c10
    have c10b1 : decide (700 < l1.length) = false := decide_eq_false (by omega)
    clear c10
    (first | rw [c10b0] | (simp only [i64_w, i32_w]; rw [c10b0]) | skip)
    replace H := Option.bind_eq_some_iff.mp H
    obtain ⟨t248, A130, H⟩ := H
    replace H : (retargetlaw04_BlastRuns.j0 k l1 l2 t248 l0_0 l0_1 l0_2) = some r := H
    have A13 := Aside0.mk A130
    clear A130
    have H' := Aside0.mk H
    clear H
    have hcz14_0 : w5.cell? ⟨gb246, 0, none⟩ = some (.slice A0_0 l0_0.length c0_0) := (blk_cell BK246.out 0).trans rfl
    have hcz14_1 : w5.cell? ⟨gb246, 1, none⟩ = some (.slice A0_1 l0_1.length c0_1) := (blk_cell BK246.out 1).trans rfl
    have hcz14_2 : w5.cell? ⟨gb246, 2, none⟩ = some (.slice A0_2 l0_2.length c0_2) := (blk_cell BK246.out 2).trans rfl
    have hfz14_0 := blk_frozen BK246.out 0
    have hfz14_1 := blk_frozen BK246.out 1
    have hfz14_2 := blk_frozen BK246.out 2
    go_wp2_with (first | ((with_reducible refine gate_callee (f := 5) rfl ?_); refine goesL_ (some 17) rfl rfl Try.func5 q37_ rfl #[.agg #[.slice A0_0 l0_0.length c0_0, .slice A0_1 l0_1.length c0_1, .slice A0_2 l0_2.length c0_2]] rfl q2_ ?_; (with_reducible refine (retargetref04_Great.calls k _ _ l0_0 _ _ l0_1 _ _ l0_2 false _ ?side1 ?side2 ?side3 ?side4 ?side5 ?side6 A6.out).mono ?_); (case side1 => repeat (first | exact (Kd.C_below HR0_0.out HB.out) | (with_reducible refine Kd.C_alloc ?_ _) | (with_reducible refine Kd.C_drewN ?_ _) | (with_reducible refine Kd.C_drew ?_))); (case side2 => exact HC0_0.out); (case side3 => repeat (first | exact (Kd.C_below HR0_1.out HB.out) | (with_reducible refine Kd.C_alloc ?_ _) | (with_reducible refine Kd.C_drewN ?_ _) | (with_reducible refine Kd.C_drew ?_))); (case side4 => exact HC0_1.out); (case side5 => repeat (first | exact (Kd.C_below HR0_2.out HB.out) | (with_reducible refine Kd.C_alloc ?_ _) | (with_reducible refine Kd.C_drewN ?_ _) | (with_reducible refine Kd.C_drew ?_))); (case side6 => exact HC0_2.out); rintro e w15 ⟨rfl, hb⟩; refine ⟨_, rfl, ?_⟩; have n0_ := Aside0.mk (blk_below (g := gb246) (o := .cells #[.slice A0_0 l0_0.length c0_0, .slice A0_1 l0_1.length c0_1, .slice A0_2 l0_2.length c0_2] 26 (0, 0)) q8_ hb); have n1_ := Aside0.mk (below_step q7_ hb); clear BK246; clear HB; have BK246 := n0_; have HB := n1_; clear n0_ n1_; (try clear hb); (try clear hb2); (try clear hk); (try clear hi)) | (go_at_call 11; (refine (retargetref02_GreatBound.calls k _ _ l2 _ _ ([] : List (S95)) t248 _ ?side1 ?side2 ?side3 ?side4 A13.out).mono ?_); (case side1 => repeat (first | exact (Kd.C_below HR2.out HB.out) | (with_reducible refine Kd.C_alloc ?_ _) | (with_reducible refine Kd.C_drewN ?_ _) | (with_reducible refine Kd.C_drew ?_))); (case side2 => exact HC2.out); (case side3 => exact Kd.C_nil _ _); (case side4 => exact Nat.le_refl _); rintro e w' ⟨rfl, ⟨nd, rfl⟩⟩))
    go_meet
    case rel => exact ⟨_, (t248), q13_, H', ⟨by first | omega | exact Nat.le_refl _⟩, ⟨by (with_reducible repeat (first | refine blk_drewN ?_ _ | refine blk_drew ?_ | refine blk_alloc ?_ _)); exact BK246.out⟩, ⟨by repeat (first | (with_reducible first | exact HB.out | apply below_alloc | apply pw_below_drewN | apply below_drew1 | refine below_set ?_ GE246.out) | exact HB.out)⟩⟩
 case rest =>
  clear HC4
  try clear c1
  try clear c2
  try clear p2
  try clear c4
  try clear c5
  try clear c7
  try clear c10
  try clear c10b0
  try clear c10b1
  try clear hcz11_0
  try clear hcz11_1
  try clear hcz11_2
  try clear hcz14_0
  try clear hcz14_1
  try clear hcz14_2
  try clear hcz8_0
  try clear hcz8_1
  try clear hcz8_2
  try clear hfz11_0
  try clear hfz11_1
  try clear hfz11_2
  try clear hfz14_0
  try clear hfz14_1
  try clear hfz14_2
  try clear hfz8_0
  try clear hfz8_1
  try clear hfz8_2
  obtain ⟨kq, x26_3, rfl, HA, HJ3, BK246, HB⟩ := hcut
  cases kq with
  | zero => exact absurd HA.out (by simp [retargetlaw04_BlastRuns.j0])
  | succ kj3 =>
   have H := HA.out
   clear HA
   simp only [retargetlaw04_BlastRuns.j0] at H
   by_cases c16 : x26_3 = true
   ·subst c16
    have H1 : (some true) = some r := by rw [if_pos rfl] at H; exact H
    clear H
    have H := H1
    clear H1
    obtain rfl := Option.some.inj H
    go_wp2
    go_ret
    exact ⟨by first | rfl | (simp [errW_none, errW_some] <;> rfl) | (simp [*, errW_none, errW_some] <;> rfl), by repeat (first | (with_reducible first | exact HB.out | apply below_alloc | apply pw_below_drewN | apply below_drew1 | refine below_set ?_ GE246.out) | exact HB.out)⟩
   ·replace c16 := Bool.eq_false_iff.mpr c16
    subst c16
    have H1 : ((retargetref04_Twin.f l0_0 l0_1 l0_2).bind fun bt249 => ((blast_Run.f kj3 bt249.1 bt249.2.1 bt249.2.2 l1).bind fun bt259 => ((retargetref04_Run.f kj3 l0_0 l0_1 l0_2 l1).bind fun bt263 => ((blast_Inputs.f kj3 bt249.1 bt249.2.1 bt249.2.2 l2).bind fun bt267 => ((retargetref04_Inputs.f kj3 l0_0 l0_1 l0_2 l2).bind fun bt271 => ((blast_Check.f kj3 bt249.1 bt249.2.1 bt249.2.2).bind fun t275 => ((retargetref04_Check.f kj3 l0_0 l0_1 l0_2).bind fun t276 => (if t275 = t276 then ((retargetref04_SameBools.f kj3 bt259.1 bt263.1).bind fun t277 => (if t277 = true then (if bt259.2 = bt263.2 then ((retargetref04_SameBools.f kj3 bt267.1 bt271.1).bind fun t278 => (if t278 = true then (if bt267.2 = bt271.2 then ((retargetref04_Same.f kj3 bt249.1 bt249.2.1 bt249.2.2 l0_0 l0_1 l0_2).bind fun t279 => (some t279)) else (some false)) else (some false))) else (some false)) else (some false))) else (some false))))))))) = some r := by rw [if_neg (show ¬ (false = true) by decide)] at H; exact H
    clear H
    have H := H1
    clear H1
    replace H := Option.bind_eq_some_iff.mp H
    obtain ⟨⟨t249, t252, t255⟩, A170, H⟩ := H
    replace H : ((blast_Run.f kj3 t249 t252 t255 l1).bind fun bt259 => ((retargetref04_Run.f kj3 l0_0 l0_1 l0_2 l1).bind fun bt263 => ((blast_Inputs.f kj3 t249 t252 t255 l2).bind fun bt267 => ((retargetref04_Inputs.f kj3 l0_0 l0_1 l0_2 l2).bind fun bt271 => ((blast_Check.f kj3 t249 t252 t255).bind fun t275 => ((retargetref04_Check.f kj3 l0_0 l0_1 l0_2).bind fun t276 => (if t275 = t276 then ((retargetref04_SameBools.f kj3 bt259.1 bt263.1).bind fun t277 => (if t277 = true then (if bt259.2 = bt263.2 then ((retargetref04_SameBools.f kj3 bt267.1 bt271.1).bind fun t278 => (if t278 = true then (if bt267.2 = bt271.2 then ((retargetref04_Same.f kj3 t249 t252 t255 l0_0 l0_1 l0_2).bind fun t279 => (some t279)) else (some false)) else (some false))) else (some false)) else (some false))) else (some false)))))))) = some r := H
    have A17 := Aside0.mk A170
    clear A170
    replace H := Option.bind_eq_some_iff.mp H
    obtain ⟨⟨t259, t262⟩, A180, H⟩ := H
    replace H : ((retargetref04_Run.f kj3 l0_0 l0_1 l0_2 l1).bind fun bt263 => ((blast_Inputs.f kj3 t249 t252 t255 l2).bind fun bt267 => ((retargetref04_Inputs.f kj3 l0_0 l0_1 l0_2 l2).bind fun bt271 => ((blast_Check.f kj3 t249 t252 t255).bind fun t275 => ((retargetref04_Check.f kj3 l0_0 l0_1 l0_2).bind fun t276 => (if t275 = t276 then ((retargetref04_SameBools.f kj3 t259 bt263.1).bind fun t277 => (if t277 = true then (if t262 = bt263.2 then ((retargetref04_SameBools.f kj3 bt267.1 bt271.1).bind fun t278 => (if t278 = true then (if bt267.2 = bt271.2 then ((retargetref04_Same.f kj3 t249 t252 t255 l0_0 l0_1 l0_2).bind fun t279 => (some t279)) else (some false)) else (some false))) else (some false)) else (some false))) else (some false))))))) = some r := H
    have A18 := Aside0.mk A180
    clear A180
    replace H := Option.bind_eq_some_iff.mp H
    obtain ⟨⟨t263, t266⟩, A190, H⟩ := H
    replace H : ((blast_Inputs.f kj3 t249 t252 t255 l2).bind fun bt267 => ((retargetref04_Inputs.f kj3 l0_0 l0_1 l0_2 l2).bind fun bt271 => ((blast_Check.f kj3 t249 t252 t255).bind fun t275 => ((retargetref04_Check.f kj3 l0_0 l0_1 l0_2).bind fun t276 => (if t275 = t276 then ((retargetref04_SameBools.f kj3 t259 t263).bind fun t277 => (if t277 = true then (if t262 = t266 then ((retargetref04_SameBools.f kj3 bt267.1 bt271.1).bind fun t278 => (if t278 = true then (if bt267.2 = bt271.2 then ((retargetref04_Same.f kj3 t249 t252 t255 l0_0 l0_1 l0_2).bind fun t279 => (some t279)) else (some false)) else (some false))) else (some false)) else (some false))) else (some false)))))) = some r := H
    have A19 := Aside0.mk A190
    clear A190
    replace H := Option.bind_eq_some_iff.mp H
    obtain ⟨⟨t267, t270⟩, A200, H⟩ := H
    replace H : ((retargetref04_Inputs.f kj3 l0_0 l0_1 l0_2 l2).bind fun bt271 => ((blast_Check.f kj3 t249 t252 t255).bind fun t275 => ((retargetref04_Check.f kj3 l0_0 l0_1 l0_2).bind fun t276 => (if t275 = t276 then ((retargetref04_SameBools.f kj3 t259 t263).bind fun t277 => (if t277 = true then (if t262 = t266 then ((retargetref04_SameBools.f kj3 t267 bt271.1).bind fun t278 => (if t278 = true then (if t270 = bt271.2 then ((retargetref04_Same.f kj3 t249 t252 t255 l0_0 l0_1 l0_2).bind fun t279 => (some t279)) else (some false)) else (some false))) else (some false)) else (some false))) else (some false))))) = some r := H
    have A20 := Aside0.mk A200
    clear A200
    replace H := Option.bind_eq_some_iff.mp H
    obtain ⟨⟨t271, t274⟩, A210, H⟩ := H
    replace H : ((blast_Check.f kj3 t249 t252 t255).bind fun t275 => ((retargetref04_Check.f kj3 l0_0 l0_1 l0_2).bind fun t276 => (if t275 = t276 then ((retargetref04_SameBools.f kj3 t259 t263).bind fun t277 => (if t277 = true then (if t262 = t266 then ((retargetref04_SameBools.f kj3 t267 t271).bind fun t278 => (if t278 = true then (if t270 = t274 then ((retargetref04_Same.f kj3 t249 t252 t255 l0_0 l0_1 l0_2).bind fun t279 => (some t279)) else (some false)) else (some false))) else (some false)) else (some false))) else (some false)))) = some r := H
    have A21 := Aside0.mk A210
    clear A210
    replace H := Option.bind_eq_some_iff.mp H
    obtain ⟨t275, A220, H⟩ := H
    replace H : ((retargetref04_Check.f kj3 l0_0 l0_1 l0_2).bind fun t276 => (if t275 = t276 then ((retargetref04_SameBools.f kj3 t259 t263).bind fun t277 => (if t277 = true then (if t262 = t266 then ((retargetref04_SameBools.f kj3 t267 t271).bind fun t278 => (if t278 = true then (if t270 = t274 then ((retargetref04_Same.f kj3 t249 t252 t255 l0_0 l0_1 l0_2).bind fun t279 => (some t279)) else (some false)) else (some false))) else (some false)) else (some false))) else (some false))) = some r := H
    have A22 := Aside0.mk A220
    clear A220
    replace H := Option.bind_eq_some_iff.mp H
    obtain ⟨t276, A230, H⟩ := H
    replace H : (if t275 = t276 then ((retargetref04_SameBools.f kj3 t259 t263).bind fun t277 => (if t277 = true then (if t262 = t266 then ((retargetref04_SameBools.f kj3 t267 t271).bind fun t278 => (if t278 = true then (if t270 = t274 then ((retargetref04_Same.f kj3 t249 t252 t255 l0_0 l0_1 l0_2).bind fun t279 => (some t279)) else (some false)) else (some false))) else (some false)) else (some false))) else (some false)) = some r := H
    have A23 := Aside0.mk A230
    clear A230
    by_cases c24 : t275 = t276
    ·rw [if_pos c24] at H
     have c24b0 : (t275 == t276) = true := beq_iff_eq.mpr c24
     have c24b1 : (t275 != t276) = false := bne_eq_false_iff_eq.mpr c24
     clear c24
     replace H := Option.bind_eq_some_iff.mp H
     obtain ⟨t277, A250, H⟩ := H
     replace H : (if t277 = true then (if t262 = t266 then ((retargetref04_SameBools.f kj3 t267 t271).bind fun t278 => (if t278 = true then (if t270 = t274 then ((retargetref04_Same.f kj3 t249 t252 t255 l0_0 l0_1 l0_2).bind fun t279 => (some t279)) else (some false)) else (some false))) else (some false)) else (some false)) = some r := H
     have A25 := Aside0.mk A250
     clear A250
     by_cases c26 : t277 = true
     ·subst c26
      have H1 : (if t262 = t266 then ((retargetref04_SameBools.f kj3 t267 t271).bind fun t278 => (if t278 = true then (if t270 = t274 then ((retargetref04_Same.f kj3 t249 t252 t255 l0_0 l0_1 l0_2).bind fun t279 => (some t279)) else (some false)) else (some false))) else (some false)) = some r := by rw [if_pos rfl] at H; exact H
      clear H
      have H := H1
      clear H1
      by_cases c27 : t262 = t266
      ·rw [if_pos c27] at H
       have c27b0 : (t262 == t266) = true := beq_iff_eq.mpr c27
       have c27b1 : (t262 != t266) = false := bne_eq_false_iff_eq.mpr c27
       clear c27
       replace H := Option.bind_eq_some_iff.mp H
       obtain ⟨t278, A280, H⟩ := H
       replace H : (if t278 = true then (if t270 = t274 then ((retargetref04_Same.f kj3 t249 t252 t255 l0_0 l0_1 l0_2).bind fun t279 => (some t279)) else (some false)) else (some false)) = some r := H
       have A28 := Aside0.mk A280
       clear A280
       by_cases c29 : t278 = true
       ·subst c29
        have H1 : (if t270 = t274 then ((retargetref04_Same.f kj3 t249 t252 t255 l0_0 l0_1 l0_2).bind fun t279 => (some t279)) else (some false)) = some r := by rw [if_pos rfl] at H; exact H
        clear H
        have H := H1
        clear H1
        by_cases c30 : t270 = t274
        ·rw [if_pos c30] at H
         have c30b0 : (t270 == t274) = true := beq_iff_eq.mpr c30
         have c30b1 : (t270 != t274) = false := bne_eq_false_iff_eq.mpr c30
         clear c30
         replace H := Option.bind_eq_some_iff.mp H
         obtain ⟨t279, A310, H⟩ := H
         replace H : (some t279) = some r := H
         have A31 := Aside0.mk A310
         clear A310
         obtain rfl := Option.some.inj H
         have hcz32_0 : wc.cell? ⟨gb246, 0, none⟩ = some (.slice A0_0 l0_0.length c0_0) := (blk_cell BK246.out 0).trans rfl
         have hcz32_1 : wc.cell? ⟨gb246, 1, none⟩ = some (.slice A0_1 l0_1.length c0_1) := (blk_cell BK246.out 1).trans rfl
         have hcz32_2 : wc.cell? ⟨gb246, 2, none⟩ = some (.slice A0_2 l0_2.length c0_2) := (blk_cell BK246.out 2).trans rfl
         have hfz32_0 := blk_frozen BK246.out 0
         have hfz32_1 := blk_frozen BK246.out 1
         have hfz32_2 := blk_frozen BK246.out 2
         try go_wp2_with (first | ((with_reducible refine gate_callee (f := 6) rfl ?_); refine goesL_ (some 28) rfl rfl Try.func6 q37_ rfl #[.agg #[.slice A0_0 l0_0.length c0_0, .slice A0_1 l0_1.length c0_1, .slice A0_2 l0_2.length c0_2]] rfl q2_ ?_; (with_reducible refine (retargetref04_Twin.calls _ _ l0_0 _ _ l0_1 _ _ l0_2 t249 t252 t255 _ ?side1 ?side2 ?side3 ?side4 ?side5 ?side6 A17.out).mono ?_); (case side1 => repeat (first | exact (Kd.C_below HR0_0.out HB.out) | (with_reducible refine Kd.C_alloc ?_ _) | (with_reducible refine Kd.C_drewN ?_ _) | (with_reducible refine Kd.C_drew ?_))); (case side2 => exact HC0_0.out); (case side3 => repeat (first | exact (Kd.C_below HR0_1.out HB.out) | (with_reducible refine Kd.C_alloc ?_ _) | (with_reducible refine Kd.C_drewN ?_ _) | (with_reducible refine Kd.C_drew ?_))); (case side4 => exact HC0_1.out); (case side5 => repeat (first | exact (Kd.C_below HR0_2.out HB.out) | (with_reducible refine Kd.C_alloc ?_ _) | (with_reducible refine Kd.C_drewN ?_ _) | (with_reducible refine Kd.C_drew ?_))); (case side6 => exact HC0_2.out); rintro e w33 ⟨v250, v253, v256, rfl, ho0, ho1, ho2, hb⟩; refine ⟨_, rfl, ?_⟩; have n0_ := Aside0.mk (Kd.R_lower ho0 (below_size q7_)); have n1_ := Aside0.mk (Kd.R_lower ho1 (below_size q7_)); have n2_ := Aside0.mk (Kd.R_lower ho2 (below_size q7_)); have n3_ := Aside0.mk (blk_below (g := gb246) (o := .cells #[.slice A0_0 l0_0.length c0_0, .slice A0_1 l0_1.length c0_1, .slice A0_2 l0_2.length c0_2] 26 (0, 0)) q8_ hb); have n4_ := Aside0.mk (below_step q7_ hb); clear BK246; clear HB; have HO251 := n0_; have HO254 := n1_; have HO257 := n2_; have BK246 := n3_; have HB := n4_; clear n0_ n1_ n2_ n3_ n4_; (try clear hb); (try clear hb2); (try clear hk); (try clear hi); (try clear ho0); (try clear ho1); (try clear ho2)) | ((with_reducible refine gate_dst (N := 7) rfl ?_); (try (refine gate_guard (by rfl) ?_; dsimp only)); refine box_event ?hg (N := 7) ?hd (cs := #[.slice none 0 0, .slice none 0 0, .slice none 0 0]) (t := 26) ?hr ?_; (case hd => rfl); (case hg => rfl); (case hr => first | (go_simp; done) | (go_simp; rfl)); intro gb258 hg w34 hbox hb; have n0_ := Aside0.mk (Kd.R_below q21_ hb); have n1_ := Aside0.mk (Kd.R_below q20_ hb); have n2_ := Aside0.mk (Kd.R_below q19_ hb); have n3_ := Aside0.mk (blk_below (g := gb246) (o := .cells #[.slice A0_0 l0_0.length c0_0, .slice A0_1 l0_1.length c0_1, .slice A0_2 l0_2.length c0_2] 26 (0, 0)) q8_ hb); have n4_ := Aside0.mk (below_step q7_ hb); have n5_ := Aside0.mk (hbox); have n6_ := Aside0.mk ((by rw [hg]; exact (below_size q7_) : w.heap.size ≤ gb258)); have n7_ := Aside0.mk ((by rw [hg]; exact (below_size q7_) : w.heap.size ≤ gb258)); have n8_ := Aside0.mk ((by rw [hg]; exact Nat.ne_of_lt (blk_lt (g := gb246) (o := .cells #[.slice A0_0 l0_0.length c0_0, .slice A0_1 l0_1.length c0_1, .slice A0_2 l0_2.length c0_2] 26 (0, 0)) q8_) : gb246 ≠ gb258)); have n9_ := Aside0.mk ((by rw [hg]; exact Nat.ne_of_gt (blk_lt (g := gb246) (o := .cells #[.slice A0_0 l0_0.length c0_0, .slice A0_1 l0_1.length c0_1, .slice A0_2 l0_2.length c0_2] 26 (0, 0)) q8_) : gb258 ≠ gb246)); clear HO251; clear HO254; clear HO257; clear BK246; clear HB; have HO251 := n0_; have HO254 := n1_; have HO257 := n2_; have BK246 := n3_; have HB := n4_; have BK258 := n5_; have GW258 := n6_; have GE258 := n7_; have NB246_258 := n8_; have NB258_246 := n9_; clear n0_ n1_ n2_ n3_ n4_ n5_ n6_ n7_ n8_ n9_; clear hb hbox hg; obtain ⟨Ao35, co35, eo35⟩ := Kd.R_slice HO251.out; subst eo35; have hnb36 := NB258_246.out; have hnc36 := NB246_258.out; have hcz37_0 : w34.cell? ⟨gb258, 0, none⟩ = some (.slice none 0 0) := (blk_cell BK258.out 0).trans rfl; have hcz37_1 : w34.cell? ⟨gb258, 1, none⟩ = some (.slice none 0 0) := (blk_cell BK258.out 1).trans rfl; have hcz37_2 : w34.cell? ⟨gb258, 2, none⟩ = some (.slice none 0 0) := (blk_cell BK258.out 2).trans rfl; have hfz37_0 := blk_frozen BK258.out 0; have hfz37_1 := blk_frozen BK258.out 1; have hfz37_2 := blk_frozen BK258.out 2; obtain ⟨Ao38, co38, eo38⟩ := Kd.R_slice HO254.out; subst eo38; obtain ⟨Ao39, co39, eo39⟩ := Kd.R_slice HO257.out; subst eo39) | ((with_reducible refine gate_callee (f := 12) rfl ?_); refine goesL_ (some 32) rfl rfl Try.func12 q37_ rfl #[.agg #[.slice Ao35 t249.length co35, .slice Ao38 t252.length co38, .slice Ao39 t255.length co39], .slice A1 l1.length c1] rfl q2_ ?_; (with_reducible refine (blast_Run.calls kj3 _ _ t249 _ _ t252 _ _ t255 _ _ l1 t259 t262 _ ?side1 ?side2 ?side3 ?side4 ?side5 ?side6 ?side7 ?side8 A18.out).mono ?_); (case side1 => refine (Kd.R_reads' (e := 52) (base := w.heap.size) (ok := fun k_ => True) (n := t249.length) (c := co35) ?_).2.2; exact (by (with_reducible repeat (first | apply Kd.R_alloc | apply Kd.R_drewN | apply Kd.R_drew)); exact (Kd.R_mono (Kd.R_far (p := ⟨gb258, 2, none⟩) (Kd.R_far (p := ⟨gb258, 1, none⟩) (Kd.R_far (p := ⟨gb258, 0, none⟩) (Kd.R_types HO251.out BK258.out q55_) (fun _ hk => hk.2) (.slice Ao35 t249.length co35)) (fun _ hk => hk.2) (.slice Ao38 t252.length co38)) (fun _ hk => hk.2) (.slice Ao39 t255.length co39)) (fun _ h_ => h_.1)))); (case side2 => exact (Kd.R_reads' HO251.out).2.1); (case side3 => refine (Kd.R_reads' (e := 54) (base := w.heap.size) (ok := fun k_ => True) (n := t252.length) (c := co38) ?_).2.2; exact (by (with_reducible repeat (first | apply Kd.R_alloc | apply Kd.R_drewN | apply Kd.R_drew)); exact (Kd.R_mono (Kd.R_far (p := ⟨gb258, 2, none⟩) (Kd.R_far (p := ⟨gb258, 1, none⟩) (Kd.R_far (p := ⟨gb258, 0, none⟩) (Kd.R_types HO254.out BK258.out q55_) (fun _ hk => hk.2) (.slice Ao35 t249.length co35)) (fun _ hk => hk.2) (.slice Ao38 t252.length co38)) (fun _ hk => hk.2) (.slice Ao39 t255.length co39)) (fun _ h_ => h_.1)))); (case side4 => exact (Kd.R_reads' HO254.out).2.1); (case side5 => refine (Kd.R_reads' (e := 3) (base := w.heap.size) (ok := fun k_ => True) (n := t255.length) (c := co39) ?_).2.2; exact (by (with_reducible repeat (first | apply Kd.R_alloc | apply Kd.R_drewN | apply Kd.R_drew)); exact (Kd.R_mono (Kd.R_far (p := ⟨gb258, 2, none⟩) (Kd.R_far (p := ⟨gb258, 1, none⟩) (Kd.R_far (p := ⟨gb258, 0, none⟩) (Kd.R_types HO257.out BK258.out q55_) (fun _ hk => hk.2) (.slice Ao35 t249.length co35)) (fun _ hk => hk.2) (.slice Ao38 t252.length co38)) (fun _ hk => hk.2) (.slice Ao39 t255.length co39)) (fun _ h_ => h_.1)))); (case side6 => exact (Kd.R_reads' HO257.out).2.1); (case side7 => exact Kd.C_below HR1.out q4_); (case side8 => exact HC1.out); rintro e w40 ⟨v260, rfl, ho0, hb⟩; refine ⟨_, rfl, ?_⟩; have n0_ := Aside0.mk (Kd.R_below (by (with_reducible repeat (first | apply Kd.R_alloc | apply Kd.R_drewN | apply Kd.R_drew)); exact (Kd.R_mono (Kd.R_far (p := ⟨gb258, 2, none⟩) (Kd.R_far (p := ⟨gb258, 1, none⟩) (Kd.R_far (p := ⟨gb258, 0, none⟩) (Kd.R_types HO251.out BK258.out q55_) (fun _ hk => hk.2) (.slice Ao35 t249.length co35)) (fun _ hk => hk.2) (.slice Ao38 t252.length co38)) (fun _ hk => hk.2) (.slice Ao39 t255.length co39)) (fun _ h_ => h_.1))) hb); have n1_ := Aside0.mk (Kd.R_below (by (with_reducible repeat (first | apply Kd.R_alloc | apply Kd.R_drewN | apply Kd.R_drew)); exact (Kd.R_mono (Kd.R_far (p := ⟨gb258, 2, none⟩) (Kd.R_far (p := ⟨gb258, 1, none⟩) (Kd.R_far (p := ⟨gb258, 0, none⟩) (Kd.R_types HO254.out BK258.out q55_) (fun _ hk => hk.2) (.slice Ao35 t249.length co35)) (fun _ hk => hk.2) (.slice Ao38 t252.length co38)) (fun _ hk => hk.2) (.slice Ao39 t255.length co39)) (fun _ h_ => h_.1))) hb); have n2_ := Aside0.mk (Kd.R_below (by (with_reducible repeat (first | apply Kd.R_alloc | apply Kd.R_drewN | apply Kd.R_drew)); exact (Kd.R_mono (Kd.R_far (p := ⟨gb258, 2, none⟩) (Kd.R_far (p := ⟨gb258, 1, none⟩) (Kd.R_far (p := ⟨gb258, 0, none⟩) (Kd.R_types HO257.out BK258.out q55_) (fun _ hk => hk.2) (.slice Ao35 t249.length co35)) (fun _ hk => hk.2) (.slice Ao38 t252.length co38)) (fun _ hk => hk.2) (.slice Ao39 t255.length co39)) (fun _ h_ => h_.1))) hb); have n3_ := Aside0.mk (Kd.R_lower ho0 (below_size q4_)); have n4_ := Aside0.mk (blk_below (g := gb246) (o := .cells #[.slice A0_0 l0_0.length c0_0, .slice A0_1 l0_1.length c0_1, .slice A0_2 l0_2.length c0_2] 26 (0, 0)) q23_ hb); have n5_ := Aside0.mk (blk_below (g := gb258) (o := .cells #[.slice Ao35 t249.length co35, .slice Ao38 t252.length co38, .slice Ao39 t255.length co39] 26 (0, 0)) (by (with_reducible repeat (first | refine blk_drewN ?_ _ | refine blk_drew ?_ | refine blk_alloc ?_ _)); refine blk_put (cs := #[.slice Ao35 t249.length co35, .slice Ao38 t252.length co38, .slice none 0 0]) ?_ 2 _ rfl; (with_reducible repeat (first | refine blk_drewN ?_ _ | refine blk_drew ?_ | refine blk_alloc ?_ _)); refine blk_put (cs := #[.slice Ao35 t249.length co35, .slice none 0 0, .slice none 0 0]) ?_ 1 _ rfl; (with_reducible repeat (first | refine blk_drewN ?_ _ | refine blk_drew ?_ | refine blk_alloc ?_ _)); refine blk_put (cs := #[.slice none 0 0, .slice none 0 0, .slice none 0 0]) ?_ 0 _ rfl; (with_reducible repeat (first | refine blk_drewN ?_ _ | refine blk_drew ?_ | refine blk_alloc ?_ _)); exact BK258.out) hb); have n6_ := Aside0.mk (below_step q4_ hb); clear HO251; clear HO254; clear HO257; clear BK246; clear BK258; clear HB; have HO251 := n0_; have HO254 := n1_; have HO257 := n2_; have HO261 := n3_; have BK246 := n4_; have BK258 := n5_; have HB := n6_; clear n0_ n1_ n2_ n3_ n4_ n5_ n6_; (try clear hb); (try clear hb2); (try clear hk); (try clear hi); (try clear ho0); have hcz41_0 : w40.cell? ⟨gb246, 0, none⟩ = some (.slice A0_0 l0_0.length c0_0) := (blk_cell BK246.out 0).trans rfl; have hcz41_1 : w40.cell? ⟨gb246, 1, none⟩ = some (.slice A0_1 l0_1.length c0_1) := (blk_cell BK246.out 1).trans rfl; have hcz41_2 : w40.cell? ⟨gb246, 2, none⟩ = some (.slice A0_2 l0_2.length c0_2) := (blk_cell BK246.out 2).trans rfl; have hfz41_0 := blk_frozen BK246.out 0; have hfz41_1 := blk_frozen BK246.out 1; have hfz41_2 := blk_frozen BK246.out 2) | ((with_reducible refine gate_callee (f := 13) rfl ?_); refine goesL_ (some 38) rfl rfl Try.func13 q37_ rfl #[.agg #[.slice A0_0 l0_0.length c0_0, .slice A0_1 l0_1.length c0_1, .slice A0_2 l0_2.length c0_2], .slice A1 l1.length c1] rfl q2_ ?_; (with_reducible refine (retargetref04_Run.calls kj3 _ _ l0_0 _ _ l0_1 _ _ l0_2 _ _ l1 t263 t266 _ ?side1 ?side2 ?side3 ?side4 ?side5 ?side6 ?side7 ?side8 A19.out).mono ?_); (case side1 => repeat (first | exact (Kd.C_below HR0_0.out HB.out) | (with_reducible refine Kd.C_alloc ?_ _) | (with_reducible refine Kd.C_drewN ?_ _) | (with_reducible refine Kd.C_drew ?_))); (case side2 => exact HC0_0.out); (case side3 => repeat (first | exact (Kd.C_below HR0_1.out HB.out) | (with_reducible refine Kd.C_alloc ?_ _) | (with_reducible refine Kd.C_drewN ?_ _) | (with_reducible refine Kd.C_drew ?_))); (case side4 => exact HC0_1.out); (case side5 => repeat (first | exact (Kd.C_below HR0_2.out HB.out) | (with_reducible refine Kd.C_alloc ?_ _) | (with_reducible refine Kd.C_drewN ?_ _) | (with_reducible refine Kd.C_drew ?_))); (case side6 => exact HC0_2.out); (case side7 => repeat (first | exact (Kd.C_below HR1.out HB.out) | (with_reducible refine Kd.C_alloc ?_ _) | (with_reducible refine Kd.C_drewN ?_ _) | (with_reducible refine Kd.C_drew ?_))); (case side8 => exact HC1.out); rintro e w42 ⟨v264, rfl, ho0, hb⟩; refine ⟨_, rfl, ?_⟩; have n0_ := Aside0.mk (Kd.R_below q21_ hb); have n1_ := Aside0.mk (Kd.R_below q20_ hb); have n2_ := Aside0.mk (Kd.R_below q19_ hb); have n3_ := Aside0.mk (Kd.R_elder' q14_ (Kd.R_base ho0) hb); have n4_ := Aside0.mk (Kd.R_lower (Kd.R_new' ho0 (Kd.R_lt q14_)) (below_size q4_)); have n5_ := Aside0.mk (blk_below (g := gb246) (o := .cells #[.slice A0_0 l0_0.length c0_0, .slice A0_1 l0_1.length c0_1, .slice A0_2 l0_2.length c0_2] 26 (0, 0)) q8_ hb); have n6_ := Aside0.mk (blk_below (g := gb258) (o := .cells #[.slice Ao35 t249.length co35, .slice Ao38 t252.length co38, .slice Ao39 t255.length co39] 26 (0, 0)) q22_ hb); have n7_ := Aside0.mk (below_step q4_ hb); clear HO251; clear HO254; clear HO257; clear HO261; clear BK246; clear BK258; clear HB; have HO251 := n0_; have HO254 := n1_; have HO257 := n2_; have HO261 := n3_; have HO265 := n4_; have BK246 := n5_; have BK258 := n6_; have HB := n7_; clear n0_ n1_ n2_ n3_ n4_ n5_ n6_ n7_; (try clear hb); (try clear hb2); (try clear hk); (try clear hi); (try clear ho0); have hcz43_0 : w42.cell? ⟨gb258, 0, none⟩ = some (.slice Ao35 t249.length co35) := (blk_cell BK258.out 0).trans rfl; have hcz43_1 : w42.cell? ⟨gb258, 1, none⟩ = some (.slice Ao38 t252.length co38) := (blk_cell BK258.out 1).trans rfl; have hcz43_2 : w42.cell? ⟨gb258, 2, none⟩ = some (.slice Ao39 t255.length co39) := (blk_cell BK258.out 2).trans rfl; have hfz43_0 := blk_frozen BK258.out 0; have hfz43_1 := blk_frozen BK258.out 1; have hfz43_2 := blk_frozen BK258.out 2) | ((with_reducible refine gate_callee (f := 14) rfl ?_); refine goesL_ (some 44) rfl rfl Try.func14 q37_ rfl #[.agg #[.slice Ao35 t249.length co35, .slice Ao38 t252.length co38, .slice Ao39 t255.length co39], .slice A2 l2.length c2] rfl q2_ ?_; (with_reducible refine (blast_Inputs.calls kj3 _ _ t249 _ _ t252 _ _ t255 _ _ l2 t267 t270 _ ?side1 ?side2 ?side3 ?side4 ?side5 ?side6 ?side7 ?side8 A20.out).mono ?_); (case side1 => repeat (first | exact (Kd.R_reads' HO251.out).2.2 | (with_reducible refine Kd.C_alloc ?_ _) | (with_reducible refine Kd.C_drewN ?_ _) | (with_reducible refine Kd.C_drew ?_))); (case side2 => exact (Kd.R_reads' HO251.out).2.1); (case side3 => repeat (first | exact (Kd.R_reads' HO254.out).2.2 | (with_reducible refine Kd.C_alloc ?_ _) | (with_reducible refine Kd.C_drewN ?_ _) | (with_reducible refine Kd.C_drew ?_))); (case side4 => exact (Kd.R_reads' HO254.out).2.1); (case side5 => repeat (first | exact (Kd.R_reads' HO257.out).2.2 | (with_reducible refine Kd.C_alloc ?_ _) | (with_reducible refine Kd.C_drewN ?_ _) | (with_reducible refine Kd.C_drew ?_))); (case side6 => exact (Kd.R_reads' HO257.out).2.1); (case side7 => repeat (first | exact (Kd.C_below HR2.out HB.out) | (with_reducible refine Kd.C_alloc ?_ _) | (with_reducible refine Kd.C_drewN ?_ _) | (with_reducible refine Kd.C_drew ?_))); (case side8 => exact HC2.out); rintro e w44 ⟨v268, rfl, ho0, hb⟩; refine ⟨_, rfl, ?_⟩; have n0_ := Aside0.mk (Kd.R_below q21_ hb); have n1_ := Aside0.mk (Kd.R_below q20_ hb); have n2_ := Aside0.mk (Kd.R_below q19_ hb); have n3_ := Aside0.mk (Kd.R_elder' q14_ (Kd.R_base ho0) hb); have n4_ := Aside0.mk (Kd.R_elder' q18_ (Kd.R_base ho0) hb); have n5_ := Aside0.mk (Kd.R_lower (Kd.R_new' (Kd.R_new' ho0 (Kd.R_lt q14_)) (Kd.R_lt q18_)) (below_size q4_)); have n6_ := Aside0.mk (blk_below (g := gb246) (o := .cells #[.slice A0_0 l0_0.length c0_0, .slice A0_1 l0_1.length c0_1, .slice A0_2 l0_2.length c0_2] 26 (0, 0)) q8_ hb); have n7_ := Aside0.mk (blk_below (g := gb258) (o := .cells #[.slice Ao35 t249.length co35, .slice Ao38 t252.length co38, .slice Ao39 t255.length co39] 26 (0, 0)) q22_ hb); have n8_ := Aside0.mk (below_step q4_ hb); clear HO251; clear HO254; clear HO257; clear HO261; clear HO265; clear BK246; clear BK258; clear HB; have HO251 := n0_; have HO254 := n1_; have HO257 := n2_; have HO261 := n3_; have HO265 := n4_; have HO269 := n5_; have BK246 := n6_; have BK258 := n7_; have HB := n8_; clear n0_ n1_ n2_ n3_ n4_ n5_ n6_ n7_ n8_; (try clear hb); (try clear hb2); (try clear hk); (try clear hi); (try clear ho0); have hcz45_0 : w44.cell? ⟨gb246, 0, none⟩ = some (.slice A0_0 l0_0.length c0_0) := (blk_cell BK246.out 0).trans rfl; have hcz45_1 : w44.cell? ⟨gb246, 1, none⟩ = some (.slice A0_1 l0_1.length c0_1) := (blk_cell BK246.out 1).trans rfl; have hcz45_2 : w44.cell? ⟨gb246, 2, none⟩ = some (.slice A0_2 l0_2.length c0_2) := (blk_cell BK246.out 2).trans rfl; have hfz45_0 := blk_frozen BK246.out 0; have hfz45_1 := blk_frozen BK246.out 1; have hfz45_2 := blk_frozen BK246.out 2) | ((with_reducible refine gate_callee (f := 15) rfl ?_); refine goesL_ (some 50) rfl rfl Try.func15 q37_ rfl #[.agg #[.slice A0_0 l0_0.length c0_0, .slice A0_1 l0_1.length c0_1, .slice A0_2 l0_2.length c0_2], .slice A2 l2.length c2] rfl q2_ ?_; (with_reducible refine (retargetref04_Inputs.calls kj3 _ _ l0_0 _ _ l0_1 _ _ l0_2 _ _ l2 t271 t274 _ ?side1 ?side2 ?side3 ?side4 ?side5 ?side6 ?side7 ?side8 A21.out).mono ?_); (case side1 => repeat (first | exact (Kd.C_below HR0_0.out HB.out) | (with_reducible refine Kd.C_alloc ?_ _) | (with_reducible refine Kd.C_drewN ?_ _) | (with_reducible refine Kd.C_drew ?_))); (case side2 => exact HC0_0.out); (case side3 => repeat (first | exact (Kd.C_below HR0_1.out HB.out) | (with_reducible refine Kd.C_alloc ?_ _) | (with_reducible refine Kd.C_drewN ?_ _) | (with_reducible refine Kd.C_drew ?_))); (case side4 => exact HC0_1.out); (case side5 => repeat (first | exact (Kd.C_below HR0_2.out HB.out) | (with_reducible refine Kd.C_alloc ?_ _) | (with_reducible refine Kd.C_drewN ?_ _) | (with_reducible refine Kd.C_drew ?_))); (case side6 => exact HC0_2.out); (case side7 => repeat (first | exact (Kd.C_below HR2.out HB.out) | (with_reducible refine Kd.C_alloc ?_ _) | (with_reducible refine Kd.C_drewN ?_ _) | (with_reducible refine Kd.C_drew ?_))); (case side8 => exact HC2.out); rintro e w46 ⟨v272, rfl, ho0, hb⟩; refine ⟨_, rfl, ?_⟩; have n0_ := Aside0.mk (Kd.R_below q21_ hb); have n1_ := Aside0.mk (Kd.R_below q20_ hb); have n2_ := Aside0.mk (Kd.R_below q19_ hb); have n3_ := Aside0.mk (Kd.R_elder' q14_ (Kd.R_base ho0) hb); have n4_ := Aside0.mk (Kd.R_elder' q18_ (Kd.R_base ho0) hb); have n5_ := Aside0.mk (Kd.R_elder' q25_ (Kd.R_base ho0) hb); have n6_ := Aside0.mk (Kd.R_lower (Kd.R_new' (Kd.R_new' (Kd.R_new' ho0 (Kd.R_lt q14_)) (Kd.R_lt q18_)) (Kd.R_lt q25_)) (below_size q4_)); have n7_ := Aside0.mk (blk_below (g := gb246) (o := .cells #[.slice A0_0 l0_0.length c0_0, .slice A0_1 l0_1.length c0_1, .slice A0_2 l0_2.length c0_2] 26 (0, 0)) q8_ hb); have n8_ := Aside0.mk (blk_below (g := gb258) (o := .cells #[.slice Ao35 t249.length co35, .slice Ao38 t252.length co38, .slice Ao39 t255.length co39] 26 (0, 0)) q22_ hb); have n9_ := Aside0.mk (below_step q4_ hb); clear HO251; clear HO254; clear HO257; clear HO261; clear HO265; clear HO269; clear BK246; clear BK258; clear HB; have HO251 := n0_; have HO254 := n1_; have HO257 := n2_; have HO261 := n3_; have HO265 := n4_; have HO269 := n5_; have HO273 := n6_; have BK246 := n7_; have BK258 := n8_; have HB := n9_; clear n0_ n1_ n2_ n3_ n4_ n5_ n6_ n7_ n8_ n9_; (try clear hb); (try clear hb2); (try clear hk); (try clear hi); (try clear ho0)))
         have n0_ := Aside0.mk (Kd.R_drew HO251.out)
         have n1_ := Aside0.mk (Kd.R_drew HO254.out)
         have n2_ := Aside0.mk (Kd.R_drew HO257.out)
         have n3_ := Aside0.mk (Kd.R_drew HO261.out)
         have n4_ := Aside0.mk (Kd.R_drew HO265.out)
         have n5_ := Aside0.mk (Kd.R_drew HO269.out)
         have n6_ := Aside0.mk (Kd.R_drew HO273.out)
         have n7_ := Aside0.mk (blk_drew BK246.out)
         have n8_ := Aside0.mk (blk_drew BK258.out)
         have n9_ := Aside0.mk (below_drew1 HB.out)
         clear HO251
         clear HO254
         clear HO257
         clear HO261
         clear HO265
         clear HO269
         clear HO273
         clear BK246
         clear BK258
         clear HB
         have HO251 := n0_
         have HO254 := n1_
         have HO257 := n2_
         have HO261 := n3_
         have HO265 := n4_
         have HO269 := n5_
         have HO273 := n6_
         have BK246 := n7_
         have BK258 := n8_
         have HB := n9_
         clear n0_ n1_ n2_ n3_ n4_ n5_ n6_ n7_ n8_ n9_
         refine start_ (n := 31) (S := fun w' => w'.cell? ⟨gb258, 0, none⟩ = some (.slice Ao35 t249.length co35) ∧ w'.cell? ⟨gb258, 1, none⟩ = some (.slice Ao38 t252.length co38) ∧ w'.cell? ⟨gb258, 2, none⟩ = some (.slice Ao39 t255.length co39) ∧ w'.cell? ⟨gb246, 0, none⟩ = some (.slice A0_0 l0_0.length c0_0) ∧ w'.cell? ⟨gb246, 1, none⟩ = some (.slice A0_1 l0_1.length c0_1) ∧ w'.cell? ⟨gb246, 2, none⟩ = some (.slice A0_2 l0_2.length c0_2)) (ds := []) #[false, false, false, false, false, false, false, false, false, false, false, false, false, false, false, false, false, false, false, false, false, false, false, false, false, false, false, false, false, false, false] q37_ rfl rfl ⟨(blk_cell BK258.out 0).trans rfl, (blk_cell BK258.out 1).trans rfl, (blk_cell BK258.out 2).trans rfl, (blk_cell BK246.out 0).trans rfl, (blk_cell BK246.out 1).trans rfl, (blk_cell BK246.out 2).trans rfl⟩ (fun hHeld => ?_); refine with_tabW retargetlaw04_BlastRuns.tab8 retargetlaw04_BlastRuns.bits8 (fun HT_ HW_ => ?_)
         generalize w46.drew = w47 at HO251 HO254 HO257 HO261 HO265 HO269 HO273 BK246 BK258 HB hHeld ⊢
         refine tz_ (i := 0) (N := some 53) (h := ?_)
         refine tz_ (i := 2) (N := some 55) (h := ?_)
         refine nz_ (i := 1) (N := some 54) (h := fun K hK => ?_)
         refine goes_ Try.func16 q37_ rfl #[.agg #[.slice Ao35 t249.length co35, .slice Ao38 t252.length co38, .slice Ao39 t255.length co39]] (by rfl) rfl rfl q2_ ?_
         with_reducible refine (blast_Check.calls kj3 _ _ t249 _ _ t252 _ _ t255 t275 _ ?side1 ?side2 ?side3 ?side4 ?side5 ?side6 A22.out).mono ?_
         (case side1 => repeat (first | exact (Kd.R_reads' HO251.out).2.2 | (with_reducible refine Kd.C_alloc ?_ _) | (with_reducible refine Kd.C_drewN ?_ _) | (with_reducible refine Kd.C_drew ?_)))
         (case side2 => exact (Kd.R_reads' HO251.out).2.1)
         (case side3 => repeat (first | exact (Kd.R_reads' HO254.out).2.2 | (with_reducible refine Kd.C_alloc ?_ _) | (with_reducible refine Kd.C_drewN ?_ _) | (with_reducible refine Kd.C_drew ?_)))
         (case side4 => exact (Kd.R_reads' HO254.out).2.1)
         (case side5 => repeat (first | exact (Kd.R_reads' HO257.out).2.2 | (with_reducible refine Kd.C_alloc ?_ _) | (with_reducible refine Kd.C_drewN ?_ _) | (with_reducible refine Kd.C_drew ?_)))
         (case side6 => exact (Kd.R_reads' HO257.out).2.1)
         rintro e w48 ⟨rfl, hb⟩
         refine ⟨_, rfl, ?_⟩
         have n0_ := Aside0.mk (Kd.R_below q21_ hb)
         have n1_ := Aside0.mk (Kd.R_below q20_ hb)
         have n2_ := Aside0.mk (Kd.R_below q19_ hb)
         have n3_ := Aside0.mk (Kd.R_below q14_ hb)
         have n4_ := Aside0.mk (Kd.R_below q18_ hb)
         have n5_ := Aside0.mk (Kd.R_below q25_ hb)
         have n6_ := Aside0.mk (Kd.R_below q46_ hb)
         have n7_ := Aside0.mk (blk_below (g := gb246) (o := .cells #[.slice A0_0 l0_0.length c0_0, .slice A0_1 l0_1.length c0_1, .slice A0_2 l0_2.length c0_2] 26 (0, 0)) q8_ hb)
         have n8_ := Aside0.mk (blk_below (g := gb258) (o := .cells #[.slice Ao35 t249.length co35, .slice Ao38 t252.length co38, .slice Ao39 t255.length co39] 26 (0, 0)) q22_ hb)
         have n9_ := Aside0.mk (below_step q4_ hb)
         clear HO251
         clear HO254
         clear HO257
         clear HO261
         clear HO265
         clear HO269
         clear HO273
         clear BK246
         clear BK258
         clear HB
         have HO251 := n0_
         have HO254 := n1_
         have HO257 := n2_
         have HO261 := n3_
         have HO265 := n4_
         have HO269 := n5_
         have HO273 := n6_
         have BK246 := n7_
         have BK258 := n8_
         have HB := n9_
         clear n0_ n1_ n2_ n3_ n4_ n5_ n6_ n7_ n8_ n9_
         (try clear hb)
         (try clear hb2)
         (try clear hk)
         (try clear hi)
         refine hK.out _ _ ⟨(blk_cell BK258.out 0).trans rfl, (blk_cell BK258.out 1).trans rfl, (blk_cell BK258.out 2).trans rfl, (blk_cell BK246.out 0).trans rfl, (blk_cell BK246.out 1).trans rfl, (blk_cell BK246.out 2).trans rfl⟩ (fun hHeld => ?_)
         clear hK K
         refine mz_ (some 54) (h := ?_)
         refine nz_ (i := 3) (N := some 56) (h := fun K hK => ?_)
         refine goes_ Try.func17 q37_ rfl #[.agg #[.slice A0_0 l0_0.length c0_0, .slice A0_1 l0_1.length c0_1, .slice A0_2 l0_2.length c0_2]] (by rfl) rfl rfl q2_ ?_
         with_reducible refine (retargetref04_Check.calls kj3 _ _ l0_0 _ _ l0_1 _ _ l0_2 t276 _ ?side1 ?side2 ?side3 ?side4 ?side5 ?side6 A23.out).mono ?_
         (case side1 => repeat (first | exact (Kd.C_below HR0_0.out HB.out) | (with_reducible refine Kd.C_alloc ?_ _) | (with_reducible refine Kd.C_drewN ?_ _) | (with_reducible refine Kd.C_drew ?_)))
         (case side2 => exact HC0_0.out)
         (case side3 => repeat (first | exact (Kd.C_below HR0_1.out HB.out) | (with_reducible refine Kd.C_alloc ?_ _) | (with_reducible refine Kd.C_drewN ?_ _) | (with_reducible refine Kd.C_drew ?_)))
         (case side4 => exact HC0_1.out)
         (case side5 => repeat (first | exact (Kd.C_below HR0_2.out HB.out) | (with_reducible refine Kd.C_alloc ?_ _) | (with_reducible refine Kd.C_drewN ?_ _) | (with_reducible refine Kd.C_drew ?_)))
         (case side6 => exact HC0_2.out)
         rintro e w49 ⟨rfl, hb⟩
         refine ⟨_, rfl, ?_⟩
         have n0_ := Aside0.mk (Kd.R_below q21_ hb)
         have n1_ := Aside0.mk (Kd.R_below q20_ hb)
         have n2_ := Aside0.mk (Kd.R_below q19_ hb)
         have n3_ := Aside0.mk (Kd.R_below q14_ hb)
         have n4_ := Aside0.mk (Kd.R_below q18_ hb)
         have n5_ := Aside0.mk (Kd.R_below q25_ hb)
         have n6_ := Aside0.mk (Kd.R_below q46_ hb)
         have n7_ := Aside0.mk (blk_below (g := gb246) (o := .cells #[.slice A0_0 l0_0.length c0_0, .slice A0_1 l0_1.length c0_1, .slice A0_2 l0_2.length c0_2] 26 (0, 0)) q8_ hb)
         have n8_ := Aside0.mk (blk_below (g := gb258) (o := .cells #[.slice Ao35 t249.length co35, .slice Ao38 t252.length co38, .slice Ao39 t255.length co39] 26 (0, 0)) q22_ hb)
         have n9_ := Aside0.mk (below_step q4_ hb)
         clear HO251
         clear HO254
         clear HO257
         clear HO261
         clear HO265
         clear HO269
         clear HO273
         clear BK246
         clear BK258
         clear HB
         have HO251 := n0_
         have HO254 := n1_
         have HO257 := n2_
         have HO261 := n3_
         have HO265 := n4_
         have HO269 := n5_
         have HO273 := n6_
         have BK246 := n7_
         have BK258 := n8_
         have HB := n9_
         clear n0_ n1_ n2_ n3_ n4_ n5_ n6_ n7_ n8_ n9_
         (try clear hb)
         (try clear hb2)
         (try clear hk)
         (try clear hi)
         obtain ⟨Ao50, co50, eo50⟩ := Kd.R_slice HO261.out
         (first | subst eo50 | (injection eo50 with f1_ f2_ f3_; have f4_ := f1_.symm; have f5_ := f3_.symm; clear f1_ f2_ f3_; subst f4_; subst f5_))
         obtain ⟨Ao51, co51, eo51⟩ := Kd.R_slice HO265.out
         (first | subst eo51 | (injection eo51 with f1_ f2_ f3_; have f4_ := f1_.symm; have f5_ := f3_.symm; clear f1_ f2_ f3_; subst f4_; subst f5_))
         refine hK.out _ _ ⟨(blk_cell BK258.out 0).trans rfl, (blk_cell BK258.out 1).trans rfl, (blk_cell BK258.out 2).trans rfl, (blk_cell BK246.out 0).trans rfl, (blk_cell BK246.out 1).trans rfl, (blk_cell BK246.out 2).trans rfl⟩ (fun hHeld => ?_)
         clear hK K
         refine mz_ (some 56) (h := ?_)
         refine pz_ (i := 4) (N := some 57) (h := ?_)
         refine pz_ (i := 5) (N := some 58) (h := ?_)
         refine pz_ (i := 6) (N := some 59) (h := ?_)
         refine pz_ (i := 7) (N := some 60) (h := ?_)
         refine nz_ (i := 8) (N := some 61) (h := fun K hK => ?_)
         refine goes_ Try.func18 q37_ rfl #[.slice Ao50 t259.length co50, .slice Ao51 t263.length co51] (by rfl) rfl rfl q2_ ?_
         with_reducible refine (retargetref04_SameBools.calls kj3 _ _ t259 _ _ t263 true _ ?side1 ?side2 ?side3 ?side4 A25.out).mono ?_
         (case side1 => repeat (first | exact (Kd.R_reads' HO261.out).2.2 | (with_reducible refine Kd.C_alloc ?_ _) | (with_reducible refine Kd.C_drewN ?_ _) | (with_reducible refine Kd.C_drew ?_)))
         (case side2 => exact (Kd.R_reads' HO261.out).2.1)
         (case side3 => repeat (first | exact (Kd.R_reads' HO265.out).2.2 | (with_reducible refine Kd.C_alloc ?_ _) | (with_reducible refine Kd.C_drewN ?_ _) | (with_reducible refine Kd.C_drew ?_)))
         (case side4 => exact (Kd.R_reads' HO265.out).2.1)
         rintro e w' ⟨rfl, ⟨nd, rfl⟩⟩
         refine ⟨_, rfl, ?_⟩
         obtain ⟨Ao52, co52, eo52⟩ := Kd.R_slice HO269.out
         (first | subst eo52 | (injection eo52 with f1_ f2_ f3_; have f4_ := f1_.symm; have f5_ := f3_.symm; clear f1_ f2_ f3_; subst f4_; subst f5_))
         obtain ⟨Ao53, co53, eo53⟩ := Kd.R_slice HO273.out
         (first | subst eo53 | (injection eo53 with f1_ f2_ f3_; have f4_ := f1_.symm; have f5_ := f3_.symm; clear f1_ f2_ f3_; subst f4_; subst f5_))
         refine hK.out _ _ ⟨(blk_cell BK258.out 0).trans rfl, (blk_cell BK258.out 1).trans rfl, (blk_cell BK258.out 2).trans rfl, (blk_cell BK246.out 0).trans rfl, (blk_cell BK246.out 1).trans rfl, (blk_cell BK246.out 2).trans rfl⟩ (fun hHeld => ?_)
         clear hK K
         refine mz_ (some 61) (h := ?_)
         refine pz_ (i := 9) (N := some 62) (h := ?_)
         refine pz_ (i := 10) (N := some 63) (h := ?_)
         refine pz_ (i := 11) (N := some 64) (h := ?_)
         refine pz_ (i := 12) (N := some 65) (h := ?_)
         refine pz_ (i := 13) (N := some 66) (h := ?_)
         refine pz_ (i := 14) (N := some 67) (h := ?_)
         refine pz_ (i := 15) (N := some 68) (h := ?_)
         refine pz_ (i := 16) (N := some 69) (h := ?_)
         refine pz_ (i := 17) (N := some 70) (h := ?_)
         refine nz_ (i := 18) (N := some 71) (h := fun K hK => ?_)
         refine goes_ Try.func18 q37_ rfl #[.slice Ao52 t267.length co52, .slice Ao53 t271.length co53] (by rfl) rfl rfl q2_ ?_
         with_reducible refine (retargetref04_SameBools.calls kj3 _ _ t267 _ _ t271 true _ ?side1 ?side2 ?side3 ?side4 A28.out).mono ?_
         (case side1 => repeat (first | exact (Kd.R_reads' HO269.out).2.2 | (with_reducible refine Kd.C_alloc ?_ _) | (with_reducible refine Kd.C_drewN ?_ _) | (with_reducible refine Kd.C_drew ?_)))
         (case side2 => exact (Kd.R_reads' HO269.out).2.1)
         (case side3 => repeat (first | exact (Kd.R_reads' HO273.out).2.2 | (with_reducible refine Kd.C_alloc ?_ _) | (with_reducible refine Kd.C_drewN ?_ _) | (with_reducible refine Kd.C_drew ?_)))
         (case side4 => exact (Kd.R_reads' HO273.out).2.1)
         rintro e w' ⟨rfl, ⟨nd, rfl⟩⟩
         refine ⟨_, rfl, ?_⟩
         refine hK.out _ _ ⟨(blk_cell BK258.out 0).trans rfl, (blk_cell BK258.out 1).trans rfl, (blk_cell BK258.out 2).trans rfl, (blk_cell BK246.out 0).trans rfl, (blk_cell BK246.out 1).trans rfl, (blk_cell BK246.out 2).trans rfl⟩ (fun hHeld => ?_)
         clear hK K
         refine mz_ (some 71) (h := ?_)
         refine pz_ (i := 19) (N := some 72) (h := ?_)
         refine pz_ (i := 20) (N := some 73) (h := ?_)
         refine pz_ (i := 21) (N := some 74) (h := ?_)
         refine pz_ (i := 22) (N := some 75) (h := ?_)
         refine pz_ (i := 23) (N := some 76) (h := ?_)
         refine pz_ (i := 24) (N := some 77) (h := ?_)
         refine pz_ (i := 25) (N := some 78) (h := ?_)
         refine tz_ (i := 26) (N := some 79) (h := ?_)
         refine tz_ (i := 27) (N := some 80) (h := ?_)
         refine nz_ (i := 28) (N := some 81) (h := fun K hK => ?_)
         refine goes_ Try.func10 q37_ rfl #[.agg #[.slice Ao35 t249.length co35, .slice Ao38 t252.length co38, .slice Ao39 t255.length co39], .agg #[.slice A0_0 l0_0.length c0_0, .slice A0_1 l0_1.length c0_1, .slice A0_2 l0_2.length c0_2]] (by rfl) rfl rfl q2_ ?_
         with_reducible refine (retargetref04_Same.calls kj3 _ _ t249 _ _ t252 _ _ t255 _ _ l0_0 _ _ l0_1 _ _ l0_2 t279 _ ?side1 ?side2 ?side3 ?side4 ?side5 ?side6 ?side7 ?side8 ?side9 ?side10 ?side11 ?side12 A31.out).mono ?_
         (case side1 => repeat (first | exact (Kd.R_reads' HO251.out).2.2 | (with_reducible refine Kd.C_alloc ?_ _) | (with_reducible refine Kd.C_drewN ?_ _) | (with_reducible refine Kd.C_drew ?_)))
         (case side2 => exact (Kd.R_reads' HO251.out).2.1)
         (case side3 => repeat (first | exact (Kd.R_reads' HO254.out).2.2 | (with_reducible refine Kd.C_alloc ?_ _) | (with_reducible refine Kd.C_drewN ?_ _) | (with_reducible refine Kd.C_drew ?_)))
         (case side4 => exact (Kd.R_reads' HO254.out).2.1)
         (case side5 => repeat (first | exact (Kd.R_reads' HO257.out).2.2 | (with_reducible refine Kd.C_alloc ?_ _) | (with_reducible refine Kd.C_drewN ?_ _) | (with_reducible refine Kd.C_drew ?_)))
         (case side6 => exact (Kd.R_reads' HO257.out).2.1)
         (case side7 => repeat (first | exact (Kd.C_below HR0_0.out q4_) | (with_reducible refine Kd.C_alloc ?_ _) | (with_reducible refine Kd.C_drewN ?_ _) | (with_reducible refine Kd.C_drew ?_)))
         (case side8 => exact HC0_0.out)
         (case side9 => repeat (first | exact (Kd.C_below HR0_1.out q4_) | (with_reducible refine Kd.C_alloc ?_ _) | (with_reducible refine Kd.C_drewN ?_ _) | (with_reducible refine Kd.C_drew ?_)))
         (case side10 => exact HC0_1.out)
         (case side11 => repeat (first | exact (Kd.C_below HR0_2.out q4_) | (with_reducible refine Kd.C_alloc ?_ _) | (with_reducible refine Kd.C_drewN ?_ _) | (with_reducible refine Kd.C_drew ?_)))
         (case side12 => exact HC0_2.out)
         rintro e w54 ⟨rfl, hb⟩
         refine ⟨_, rfl, ?_⟩
         have n0_ := Aside0.mk (Kd.R_below q21_ hb)
         have n1_ := Aside0.mk (Kd.R_below q20_ hb)
         have n2_ := Aside0.mk (Kd.R_below q19_ hb)
         have n3_ := Aside0.mk (Kd.R_below q14_ hb)
         have n4_ := Aside0.mk (Kd.R_below q18_ hb)
         have n5_ := Aside0.mk (Kd.R_below q25_ hb)
         have n6_ := Aside0.mk (Kd.R_below q46_ hb)
         have n7_ := Aside0.mk (blk_below (g := gb246) (o := .cells #[.slice A0_0 l0_0.length c0_0, .slice A0_1 l0_1.length c0_1, .slice A0_2 l0_2.length c0_2] 26 (0, 0)) q8_ hb)
         have n8_ := Aside0.mk (blk_below (g := gb258) (o := .cells #[.slice Ao35 t249.length co35, .slice Ao38 t252.length co38, .slice Ao39 t255.length co39] 26 (0, 0)) q22_ hb)
         have n9_ := Aside0.mk (below_step q4_ hb)
         clear HO251
         clear HO254
         clear HO257
         clear HO261
         clear HO265
         clear HO269
         clear HO273
         clear BK246
         clear BK258
         clear HB
         have HO251 := n0_
         have HO254 := n1_
         have HO257 := n2_
         have HO261 := n3_
         have HO265 := n4_
         have HO269 := n5_
         have HO273 := n6_
         have BK246 := n7_
         have BK258 := n8_
         have HB := n9_
         clear n0_ n1_ n2_ n3_ n4_ n5_ n6_ n7_ n8_ n9_
         (try clear hb)
         (try clear hb2)
         (try clear hk)
         (try clear hi)
         refine hK.out _ _ ⟨(blk_cell BK258.out 0).trans rfl, (blk_cell BK258.out 1).trans rfl, (blk_cell BK258.out 2).trans rfl, (blk_cell BK246.out 0).trans rfl, (blk_cell BK246.out 1).trans rfl, (blk_cell BK246.out 2).trans rfl⟩ (fun hHeld => ?_)
         clear hK K
         refine mz_ (some 81) (h := ?_)
         refine pz_ (i := 29) (N := some 82) (h := ?_)
         refine pz_ (i := 30) (N := some 6) (h := ?_)
         refine done_ (done_of HT_.out q37_) ?_
         try go_wp2
         go_ret
         exact ⟨by first | rfl | (simp [errW_none, errW_some] <;> rfl) | (simp [*, errW_none, errW_some] <;> rfl), by repeat (first | (with_reducible first | exact HB.out | apply below_alloc | apply pw_below_drewN | apply below_drew1 | refine below_set ?_ GE246.out | refine below_set ?_ GE258.out) | exact HB.out)⟩
        ·rw [if_neg c30] at H
         have c30b0 : (t270 == t274) = false := beq_eq_false_iff_ne.mpr c30
         have c30b1 : (t270 != t274) = true := bne_iff_ne.mpr c30
         obtain rfl := Option.some.inj H
         have hcz55_0 : wc.cell? ⟨gb246, 0, none⟩ = some (.slice A0_0 l0_0.length c0_0) := (blk_cell BK246.out 0).trans rfl
         have hcz55_1 : wc.cell? ⟨gb246, 1, none⟩ = some (.slice A0_1 l0_1.length c0_1) := (blk_cell BK246.out 1).trans rfl
         have hcz55_2 : wc.cell? ⟨gb246, 2, none⟩ = some (.slice A0_2 l0_2.length c0_2) := (blk_cell BK246.out 2).trans rfl
         have hfz55_0 := blk_frozen BK246.out 0
         have hfz55_1 := blk_frozen BK246.out 1
         have hfz55_2 := blk_frozen BK246.out 2
         try go_wp2_with (first | ((with_reducible refine gate_callee (f := 6) rfl ?_); refine goesL_ (some 28) rfl rfl Try.func6 q37_ rfl #[.agg #[.slice A0_0 l0_0.length c0_0, .slice A0_1 l0_1.length c0_1, .slice A0_2 l0_2.length c0_2]] rfl q2_ ?_; (with_reducible refine (retargetref04_Twin.calls _ _ l0_0 _ _ l0_1 _ _ l0_2 t249 t252 t255 _ ?side1 ?side2 ?side3 ?side4 ?side5 ?side6 A17.out).mono ?_); (case side1 => repeat (first | exact (Kd.C_below HR0_0.out HB.out) | (with_reducible refine Kd.C_alloc ?_ _) | (with_reducible refine Kd.C_drewN ?_ _) | (with_reducible refine Kd.C_drew ?_))); (case side2 => exact HC0_0.out); (case side3 => repeat (first | exact (Kd.C_below HR0_1.out HB.out) | (with_reducible refine Kd.C_alloc ?_ _) | (with_reducible refine Kd.C_drewN ?_ _) | (with_reducible refine Kd.C_drew ?_))); (case side4 => exact HC0_1.out); (case side5 => repeat (first | exact (Kd.C_below HR0_2.out HB.out) | (with_reducible refine Kd.C_alloc ?_ _) | (with_reducible refine Kd.C_drewN ?_ _) | (with_reducible refine Kd.C_drew ?_))); (case side6 => exact HC0_2.out); rintro e w56 ⟨v250, v253, v256, rfl, ho0, ho1, ho2, hb⟩; refine ⟨_, rfl, ?_⟩; have n0_ := Aside0.mk (Kd.R_lower ho0 (below_size q7_)); have n1_ := Aside0.mk (Kd.R_lower ho1 (below_size q7_)); have n2_ := Aside0.mk (Kd.R_lower ho2 (below_size q7_)); have n3_ := Aside0.mk (blk_below (g := gb246) (o := .cells #[.slice A0_0 l0_0.length c0_0, .slice A0_1 l0_1.length c0_1, .slice A0_2 l0_2.length c0_2] 26 (0, 0)) q8_ hb); have n4_ := Aside0.mk (below_step q7_ hb); clear BK246; clear HB; have HO251 := n0_; have HO254 := n1_; have HO257 := n2_; have BK246 := n3_; have HB := n4_; clear n0_ n1_ n2_ n3_ n4_; (try clear hb); (try clear hb2); (try clear hk); (try clear hi); (try clear ho0); (try clear ho1); (try clear ho2)) | ((with_reducible refine gate_dst (N := 7) rfl ?_); (try (refine gate_guard (by rfl) ?_; dsimp only)); refine box_event ?hg (N := 7) ?hd (cs := #[.slice none 0 0, .slice none 0 0, .slice none 0 0]) (t := 26) ?hr ?_; (case hd => rfl); (case hg => rfl); (case hr => first | (go_simp; done) | (go_simp; rfl)); intro gb258 hg w57 hbox hb; have n0_ := Aside0.mk (Kd.R_below q21_ hb); have n1_ := Aside0.mk (Kd.R_below q20_ hb); have n2_ := Aside0.mk (Kd.R_below q19_ hb); have n3_ := Aside0.mk (blk_below (g := gb246) (o := .cells #[.slice A0_0 l0_0.length c0_0, .slice A0_1 l0_1.length c0_1, .slice A0_2 l0_2.length c0_2] 26 (0, 0)) q8_ hb); have n4_ := Aside0.mk (below_step q7_ hb); have n5_ := Aside0.mk (hbox); have n6_ := Aside0.mk ((by rw [hg]; exact (below_size q7_) : w.heap.size ≤ gb258)); have n7_ := Aside0.mk ((by rw [hg]; exact (below_size q7_) : w.heap.size ≤ gb258)); have n8_ := Aside0.mk ((by rw [hg]; exact Nat.ne_of_lt (blk_lt (g := gb246) (o := .cells #[.slice A0_0 l0_0.length c0_0, .slice A0_1 l0_1.length c0_1, .slice A0_2 l0_2.length c0_2] 26 (0, 0)) q8_) : gb246 ≠ gb258)); have n9_ := Aside0.mk ((by rw [hg]; exact Nat.ne_of_gt (blk_lt (g := gb246) (o := .cells #[.slice A0_0 l0_0.length c0_0, .slice A0_1 l0_1.length c0_1, .slice A0_2 l0_2.length c0_2] 26 (0, 0)) q8_) : gb258 ≠ gb246)); clear HO251; clear HO254; clear HO257; clear BK246; clear HB; have HO251 := n0_; have HO254 := n1_; have HO257 := n2_; have BK246 := n3_; have HB := n4_; have BK258 := n5_; have GW258 := n6_; have GE258 := n7_; have NB246_258 := n8_; have NB258_246 := n9_; clear n0_ n1_ n2_ n3_ n4_ n5_ n6_ n7_ n8_ n9_; clear hb hbox hg; obtain ⟨Ao58, co58, eo58⟩ := Kd.R_slice HO251.out; subst eo58; have hnb59 := NB258_246.out; have hnc59 := NB246_258.out; have hcz60_0 : w57.cell? ⟨gb258, 0, none⟩ = some (.slice none 0 0) := (blk_cell BK258.out 0).trans rfl; have hcz60_1 : w57.cell? ⟨gb258, 1, none⟩ = some (.slice none 0 0) := (blk_cell BK258.out 1).trans rfl; have hcz60_2 : w57.cell? ⟨gb258, 2, none⟩ = some (.slice none 0 0) := (blk_cell BK258.out 2).trans rfl; have hfz60_0 := blk_frozen BK258.out 0; have hfz60_1 := blk_frozen BK258.out 1; have hfz60_2 := blk_frozen BK258.out 2; obtain ⟨Ao61, co61, eo61⟩ := Kd.R_slice HO254.out; subst eo61; obtain ⟨Ao62, co62, eo62⟩ := Kd.R_slice HO257.out; subst eo62) | ((with_reducible refine gate_callee (f := 12) rfl ?_); refine goesL_ (some 32) rfl rfl Try.func12 q37_ rfl #[.agg #[.slice Ao58 t249.length co58, .slice Ao61 t252.length co61, .slice Ao62 t255.length co62], .slice A1 l1.length c1] rfl q2_ ?_; (with_reducible refine (blast_Run.calls kj3 _ _ t249 _ _ t252 _ _ t255 _ _ l1 t259 t262 _ ?side1 ?side2 ?side3 ?side4 ?side5 ?side6 ?side7 ?side8 A18.out).mono ?_); (case side1 => refine (Kd.R_reads' (e := 52) (base := w.heap.size) (ok := fun k_ => True) (n := t249.length) (c := co58) ?_).2.2; exact (by (with_reducible repeat (first | apply Kd.R_alloc | apply Kd.R_drewN | apply Kd.R_drew)); exact (Kd.R_mono (Kd.R_far (p := ⟨gb258, 2, none⟩) (Kd.R_far (p := ⟨gb258, 1, none⟩) (Kd.R_far (p := ⟨gb258, 0, none⟩) (Kd.R_types HO251.out BK258.out q55_) (fun _ hk => hk.2) (.slice Ao58 t249.length co58)) (fun _ hk => hk.2) (.slice Ao61 t252.length co61)) (fun _ hk => hk.2) (.slice Ao62 t255.length co62)) (fun _ h_ => h_.1)))); (case side2 => exact (Kd.R_reads' HO251.out).2.1); (case side3 => refine (Kd.R_reads' (e := 54) (base := w.heap.size) (ok := fun k_ => True) (n := t252.length) (c := co61) ?_).2.2; exact (by (with_reducible repeat (first | apply Kd.R_alloc | apply Kd.R_drewN | apply Kd.R_drew)); exact (Kd.R_mono (Kd.R_far (p := ⟨gb258, 2, none⟩) (Kd.R_far (p := ⟨gb258, 1, none⟩) (Kd.R_far (p := ⟨gb258, 0, none⟩) (Kd.R_types HO254.out BK258.out q55_) (fun _ hk => hk.2) (.slice Ao58 t249.length co58)) (fun _ hk => hk.2) (.slice Ao61 t252.length co61)) (fun _ hk => hk.2) (.slice Ao62 t255.length co62)) (fun _ h_ => h_.1)))); (case side4 => exact (Kd.R_reads' HO254.out).2.1); (case side5 => refine (Kd.R_reads' (e := 3) (base := w.heap.size) (ok := fun k_ => True) (n := t255.length) (c := co62) ?_).2.2; exact (by (with_reducible repeat (first | apply Kd.R_alloc | apply Kd.R_drewN | apply Kd.R_drew)); exact (Kd.R_mono (Kd.R_far (p := ⟨gb258, 2, none⟩) (Kd.R_far (p := ⟨gb258, 1, none⟩) (Kd.R_far (p := ⟨gb258, 0, none⟩) (Kd.R_types HO257.out BK258.out q55_) (fun _ hk => hk.2) (.slice Ao58 t249.length co58)) (fun _ hk => hk.2) (.slice Ao61 t252.length co61)) (fun _ hk => hk.2) (.slice Ao62 t255.length co62)) (fun _ h_ => h_.1)))); (case side6 => exact (Kd.R_reads' HO257.out).2.1); (case side7 => exact Kd.C_below HR1.out q4_); (case side8 => exact HC1.out); rintro e w63 ⟨v260, rfl, ho0, hb⟩; refine ⟨_, rfl, ?_⟩; have n0_ := Aside0.mk (Kd.R_below (by (with_reducible repeat (first | apply Kd.R_alloc | apply Kd.R_drewN | apply Kd.R_drew)); exact (Kd.R_mono (Kd.R_far (p := ⟨gb258, 2, none⟩) (Kd.R_far (p := ⟨gb258, 1, none⟩) (Kd.R_far (p := ⟨gb258, 0, none⟩) (Kd.R_types HO251.out BK258.out q55_) (fun _ hk => hk.2) (.slice Ao58 t249.length co58)) (fun _ hk => hk.2) (.slice Ao61 t252.length co61)) (fun _ hk => hk.2) (.slice Ao62 t255.length co62)) (fun _ h_ => h_.1))) hb); have n1_ := Aside0.mk (Kd.R_below (by (with_reducible repeat (first | apply Kd.R_alloc | apply Kd.R_drewN | apply Kd.R_drew)); exact (Kd.R_mono (Kd.R_far (p := ⟨gb258, 2, none⟩) (Kd.R_far (p := ⟨gb258, 1, none⟩) (Kd.R_far (p := ⟨gb258, 0, none⟩) (Kd.R_types HO254.out BK258.out q55_) (fun _ hk => hk.2) (.slice Ao58 t249.length co58)) (fun _ hk => hk.2) (.slice Ao61 t252.length co61)) (fun _ hk => hk.2) (.slice Ao62 t255.length co62)) (fun _ h_ => h_.1))) hb); have n2_ := Aside0.mk (Kd.R_below (by (with_reducible repeat (first | apply Kd.R_alloc | apply Kd.R_drewN | apply Kd.R_drew)); exact (Kd.R_mono (Kd.R_far (p := ⟨gb258, 2, none⟩) (Kd.R_far (p := ⟨gb258, 1, none⟩) (Kd.R_far (p := ⟨gb258, 0, none⟩) (Kd.R_types HO257.out BK258.out q55_) (fun _ hk => hk.2) (.slice Ao58 t249.length co58)) (fun _ hk => hk.2) (.slice Ao61 t252.length co61)) (fun _ hk => hk.2) (.slice Ao62 t255.length co62)) (fun _ h_ => h_.1))) hb); have n3_ := Aside0.mk (Kd.R_lower ho0 (below_size q4_)); have n4_ := Aside0.mk (blk_below (g := gb246) (o := .cells #[.slice A0_0 l0_0.length c0_0, .slice A0_1 l0_1.length c0_1, .slice A0_2 l0_2.length c0_2] 26 (0, 0)) q23_ hb); have n5_ := Aside0.mk (blk_below (g := gb258) (o := .cells #[.slice Ao58 t249.length co58, .slice Ao61 t252.length co61, .slice Ao62 t255.length co62] 26 (0, 0)) (by (with_reducible repeat (first | refine blk_drewN ?_ _ | refine blk_drew ?_ | refine blk_alloc ?_ _)); refine blk_put (cs := #[.slice Ao58 t249.length co58, .slice Ao61 t252.length co61, .slice none 0 0]) ?_ 2 _ rfl; (with_reducible repeat (first | refine blk_drewN ?_ _ | refine blk_drew ?_ | refine blk_alloc ?_ _)); refine blk_put (cs := #[.slice Ao58 t249.length co58, .slice none 0 0, .slice none 0 0]) ?_ 1 _ rfl; (with_reducible repeat (first | refine blk_drewN ?_ _ | refine blk_drew ?_ | refine blk_alloc ?_ _)); refine blk_put (cs := #[.slice none 0 0, .slice none 0 0, .slice none 0 0]) ?_ 0 _ rfl; (with_reducible repeat (first | refine blk_drewN ?_ _ | refine blk_drew ?_ | refine blk_alloc ?_ _)); exact BK258.out) hb); have n6_ := Aside0.mk (below_step q4_ hb); clear HO251; clear HO254; clear HO257; clear BK246; clear BK258; clear HB; have HO251 := n0_; have HO254 := n1_; have HO257 := n2_; have HO261 := n3_; have BK246 := n4_; have BK258 := n5_; have HB := n6_; clear n0_ n1_ n2_ n3_ n4_ n5_ n6_; (try clear hb); (try clear hb2); (try clear hk); (try clear hi); (try clear ho0); have hcz64_0 : w63.cell? ⟨gb246, 0, none⟩ = some (.slice A0_0 l0_0.length c0_0) := (blk_cell BK246.out 0).trans rfl; have hcz64_1 : w63.cell? ⟨gb246, 1, none⟩ = some (.slice A0_1 l0_1.length c0_1) := (blk_cell BK246.out 1).trans rfl; have hcz64_2 : w63.cell? ⟨gb246, 2, none⟩ = some (.slice A0_2 l0_2.length c0_2) := (blk_cell BK246.out 2).trans rfl; have hfz64_0 := blk_frozen BK246.out 0; have hfz64_1 := blk_frozen BK246.out 1; have hfz64_2 := blk_frozen BK246.out 2) | ((with_reducible refine gate_callee (f := 13) rfl ?_); refine goesL_ (some 38) rfl rfl Try.func13 q37_ rfl #[.agg #[.slice A0_0 l0_0.length c0_0, .slice A0_1 l0_1.length c0_1, .slice A0_2 l0_2.length c0_2], .slice A1 l1.length c1] rfl q2_ ?_; (with_reducible refine (retargetref04_Run.calls kj3 _ _ l0_0 _ _ l0_1 _ _ l0_2 _ _ l1 t263 t266 _ ?side1 ?side2 ?side3 ?side4 ?side5 ?side6 ?side7 ?side8 A19.out).mono ?_); (case side1 => repeat (first | exact (Kd.C_below HR0_0.out HB.out) | (with_reducible refine Kd.C_alloc ?_ _) | (with_reducible refine Kd.C_drewN ?_ _) | (with_reducible refine Kd.C_drew ?_))); (case side2 => exact HC0_0.out); (case side3 => repeat (first | exact (Kd.C_below HR0_1.out HB.out) | (with_reducible refine Kd.C_alloc ?_ _) | (with_reducible refine Kd.C_drewN ?_ _) | (with_reducible refine Kd.C_drew ?_))); (case side4 => exact HC0_1.out); (case side5 => repeat (first | exact (Kd.C_below HR0_2.out HB.out) | (with_reducible refine Kd.C_alloc ?_ _) | (with_reducible refine Kd.C_drewN ?_ _) | (with_reducible refine Kd.C_drew ?_))); (case side6 => exact HC0_2.out); (case side7 => repeat (first | exact (Kd.C_below HR1.out HB.out) | (with_reducible refine Kd.C_alloc ?_ _) | (with_reducible refine Kd.C_drewN ?_ _) | (with_reducible refine Kd.C_drew ?_))); (case side8 => exact HC1.out); rintro e w65 ⟨v264, rfl, ho0, hb⟩; refine ⟨_, rfl, ?_⟩; have n0_ := Aside0.mk (Kd.R_below q21_ hb); have n1_ := Aside0.mk (Kd.R_below q20_ hb); have n2_ := Aside0.mk (Kd.R_below q19_ hb); have n3_ := Aside0.mk (Kd.R_elder' q14_ (Kd.R_base ho0) hb); have n4_ := Aside0.mk (Kd.R_lower (Kd.R_new' ho0 (Kd.R_lt q14_)) (below_size q4_)); have n5_ := Aside0.mk (blk_below (g := gb246) (o := .cells #[.slice A0_0 l0_0.length c0_0, .slice A0_1 l0_1.length c0_1, .slice A0_2 l0_2.length c0_2] 26 (0, 0)) q8_ hb); have n6_ := Aside0.mk (blk_below (g := gb258) (o := .cells #[.slice Ao58 t249.length co58, .slice Ao61 t252.length co61, .slice Ao62 t255.length co62] 26 (0, 0)) q22_ hb); have n7_ := Aside0.mk (below_step q4_ hb); clear HO251; clear HO254; clear HO257; clear HO261; clear BK246; clear BK258; clear HB; have HO251 := n0_; have HO254 := n1_; have HO257 := n2_; have HO261 := n3_; have HO265 := n4_; have BK246 := n5_; have BK258 := n6_; have HB := n7_; clear n0_ n1_ n2_ n3_ n4_ n5_ n6_ n7_; (try clear hb); (try clear hb2); (try clear hk); (try clear hi); (try clear ho0); have hcz66_0 : w65.cell? ⟨gb258, 0, none⟩ = some (.slice Ao58 t249.length co58) := (blk_cell BK258.out 0).trans rfl; have hcz66_1 : w65.cell? ⟨gb258, 1, none⟩ = some (.slice Ao61 t252.length co61) := (blk_cell BK258.out 1).trans rfl; have hcz66_2 : w65.cell? ⟨gb258, 2, none⟩ = some (.slice Ao62 t255.length co62) := (blk_cell BK258.out 2).trans rfl; have hfz66_0 := blk_frozen BK258.out 0; have hfz66_1 := blk_frozen BK258.out 1; have hfz66_2 := blk_frozen BK258.out 2) | ((with_reducible refine gate_callee (f := 14) rfl ?_); refine goesL_ (some 44) rfl rfl Try.func14 q37_ rfl #[.agg #[.slice Ao58 t249.length co58, .slice Ao61 t252.length co61, .slice Ao62 t255.length co62], .slice A2 l2.length c2] rfl q2_ ?_; (with_reducible refine (blast_Inputs.calls kj3 _ _ t249 _ _ t252 _ _ t255 _ _ l2 t267 t270 _ ?side1 ?side2 ?side3 ?side4 ?side5 ?side6 ?side7 ?side8 A20.out).mono ?_); (case side1 => repeat (first | exact (Kd.R_reads' HO251.out).2.2 | (with_reducible refine Kd.C_alloc ?_ _) | (with_reducible refine Kd.C_drewN ?_ _) | (with_reducible refine Kd.C_drew ?_))); (case side2 => exact (Kd.R_reads' HO251.out).2.1); (case side3 => repeat (first | exact (Kd.R_reads' HO254.out).2.2 | (with_reducible refine Kd.C_alloc ?_ _) | (with_reducible refine Kd.C_drewN ?_ _) | (with_reducible refine Kd.C_drew ?_))); (case side4 => exact (Kd.R_reads' HO254.out).2.1); (case side5 => repeat (first | exact (Kd.R_reads' HO257.out).2.2 | (with_reducible refine Kd.C_alloc ?_ _) | (with_reducible refine Kd.C_drewN ?_ _) | (with_reducible refine Kd.C_drew ?_))); (case side6 => exact (Kd.R_reads' HO257.out).2.1); (case side7 => repeat (first | exact (Kd.C_below HR2.out HB.out) | (with_reducible refine Kd.C_alloc ?_ _) | (with_reducible refine Kd.C_drewN ?_ _) | (with_reducible refine Kd.C_drew ?_))); (case side8 => exact HC2.out); rintro e w67 ⟨v268, rfl, ho0, hb⟩; refine ⟨_, rfl, ?_⟩; have n0_ := Aside0.mk (Kd.R_below q21_ hb); have n1_ := Aside0.mk (Kd.R_below q20_ hb); have n2_ := Aside0.mk (Kd.R_below q19_ hb); have n3_ := Aside0.mk (Kd.R_elder' q14_ (Kd.R_base ho0) hb); have n4_ := Aside0.mk (Kd.R_elder' q18_ (Kd.R_base ho0) hb); have n5_ := Aside0.mk (Kd.R_lower (Kd.R_new' (Kd.R_new' ho0 (Kd.R_lt q14_)) (Kd.R_lt q18_)) (below_size q4_)); have n6_ := Aside0.mk (blk_below (g := gb246) (o := .cells #[.slice A0_0 l0_0.length c0_0, .slice A0_1 l0_1.length c0_1, .slice A0_2 l0_2.length c0_2] 26 (0, 0)) q8_ hb); have n7_ := Aside0.mk (blk_below (g := gb258) (o := .cells #[.slice Ao58 t249.length co58, .slice Ao61 t252.length co61, .slice Ao62 t255.length co62] 26 (0, 0)) q22_ hb); have n8_ := Aside0.mk (below_step q4_ hb); clear HO251; clear HO254; clear HO257; clear HO261; clear HO265; clear BK246; clear BK258; clear HB; have HO251 := n0_; have HO254 := n1_; have HO257 := n2_; have HO261 := n3_; have HO265 := n4_; have HO269 := n5_; have BK246 := n6_; have BK258 := n7_; have HB := n8_; clear n0_ n1_ n2_ n3_ n4_ n5_ n6_ n7_ n8_; (try clear hb); (try clear hb2); (try clear hk); (try clear hi); (try clear ho0); have hcz68_0 : w67.cell? ⟨gb246, 0, none⟩ = some (.slice A0_0 l0_0.length c0_0) := (blk_cell BK246.out 0).trans rfl; have hcz68_1 : w67.cell? ⟨gb246, 1, none⟩ = some (.slice A0_1 l0_1.length c0_1) := (blk_cell BK246.out 1).trans rfl; have hcz68_2 : w67.cell? ⟨gb246, 2, none⟩ = some (.slice A0_2 l0_2.length c0_2) := (blk_cell BK246.out 2).trans rfl; have hfz68_0 := blk_frozen BK246.out 0; have hfz68_1 := blk_frozen BK246.out 1; have hfz68_2 := blk_frozen BK246.out 2) | ((with_reducible refine gate_callee (f := 15) rfl ?_); refine goesL_ (some 50) rfl rfl Try.func15 q37_ rfl #[.agg #[.slice A0_0 l0_0.length c0_0, .slice A0_1 l0_1.length c0_1, .slice A0_2 l0_2.length c0_2], .slice A2 l2.length c2] rfl q2_ ?_; (with_reducible refine (retargetref04_Inputs.calls kj3 _ _ l0_0 _ _ l0_1 _ _ l0_2 _ _ l2 t271 t274 _ ?side1 ?side2 ?side3 ?side4 ?side5 ?side6 ?side7 ?side8 A21.out).mono ?_); (case side1 => repeat (first | exact (Kd.C_below HR0_0.out HB.out) | (with_reducible refine Kd.C_alloc ?_ _) | (with_reducible refine Kd.C_drewN ?_ _) | (with_reducible refine Kd.C_drew ?_))); (case side2 => exact HC0_0.out); (case side3 => repeat (first | exact (Kd.C_below HR0_1.out HB.out) | (with_reducible refine Kd.C_alloc ?_ _) | (with_reducible refine Kd.C_drewN ?_ _) | (with_reducible refine Kd.C_drew ?_))); (case side4 => exact HC0_1.out); (case side5 => repeat (first | exact (Kd.C_below HR0_2.out HB.out) | (with_reducible refine Kd.C_alloc ?_ _) | (with_reducible refine Kd.C_drewN ?_ _) | (with_reducible refine Kd.C_drew ?_))); (case side6 => exact HC0_2.out); (case side7 => repeat (first | exact (Kd.C_below HR2.out HB.out) | (with_reducible refine Kd.C_alloc ?_ _) | (with_reducible refine Kd.C_drewN ?_ _) | (with_reducible refine Kd.C_drew ?_))); (case side8 => exact HC2.out); rintro e w69 ⟨v272, rfl, ho0, hb⟩; refine ⟨_, rfl, ?_⟩; have n0_ := Aside0.mk (Kd.R_below q21_ hb); have n1_ := Aside0.mk (Kd.R_below q20_ hb); have n2_ := Aside0.mk (Kd.R_below q19_ hb); have n3_ := Aside0.mk (Kd.R_elder' q14_ (Kd.R_base ho0) hb); have n4_ := Aside0.mk (Kd.R_elder' q18_ (Kd.R_base ho0) hb); have n5_ := Aside0.mk (Kd.R_elder' q25_ (Kd.R_base ho0) hb); have n6_ := Aside0.mk (Kd.R_lower (Kd.R_new' (Kd.R_new' (Kd.R_new' ho0 (Kd.R_lt q14_)) (Kd.R_lt q18_)) (Kd.R_lt q25_)) (below_size q4_)); have n7_ := Aside0.mk (blk_below (g := gb246) (o := .cells #[.slice A0_0 l0_0.length c0_0, .slice A0_1 l0_1.length c0_1, .slice A0_2 l0_2.length c0_2] 26 (0, 0)) q8_ hb); have n8_ := Aside0.mk (blk_below (g := gb258) (o := .cells #[.slice Ao58 t249.length co58, .slice Ao61 t252.length co61, .slice Ao62 t255.length co62] 26 (0, 0)) q22_ hb); have n9_ := Aside0.mk (below_step q4_ hb); clear HO251; clear HO254; clear HO257; clear HO261; clear HO265; clear HO269; clear BK246; clear BK258; clear HB; have HO251 := n0_; have HO254 := n1_; have HO257 := n2_; have HO261 := n3_; have HO265 := n4_; have HO269 := n5_; have HO273 := n6_; have BK246 := n7_; have BK258 := n8_; have HB := n9_; clear n0_ n1_ n2_ n3_ n4_ n5_ n6_ n7_ n8_ n9_; (try clear hb); (try clear hb2); (try clear hk); (try clear hi); (try clear ho0)))
         have n0_ := Aside0.mk (Kd.R_drew HO251.out)
         have n1_ := Aside0.mk (Kd.R_drew HO254.out)
         have n2_ := Aside0.mk (Kd.R_drew HO257.out)
         have n3_ := Aside0.mk (Kd.R_drew HO261.out)
         have n4_ := Aside0.mk (Kd.R_drew HO265.out)
         have n5_ := Aside0.mk (Kd.R_drew HO269.out)
         have n6_ := Aside0.mk (Kd.R_drew HO273.out)
         have n7_ := Aside0.mk (blk_drew BK246.out)
         have n8_ := Aside0.mk (blk_drew BK258.out)
         have n9_ := Aside0.mk (below_drew1 HB.out)
         clear HO251
         clear HO254
         clear HO257
         clear HO261
         clear HO265
         clear HO269
         clear HO273
         clear BK246
         clear BK258
         clear HB
         have HO251 := n0_
         have HO254 := n1_
         have HO257 := n2_
         have HO261 := n3_
         have HO265 := n4_
         have HO269 := n5_
         have HO273 := n6_
         have BK246 := n7_
         have BK258 := n8_
         have HB := n9_
         clear n0_ n1_ n2_ n3_ n4_ n5_ n6_ n7_ n8_ n9_
         refine start_ (n := 31) (S := fun w' => w'.cell? ⟨gb258, 0, none⟩ = some (.slice Ao58 t249.length co58) ∧ w'.cell? ⟨gb258, 1, none⟩ = some (.slice Ao61 t252.length co61) ∧ w'.cell? ⟨gb258, 2, none⟩ = some (.slice Ao62 t255.length co62) ∧ w'.cell? ⟨gb246, 0, none⟩ = some (.slice A0_0 l0_0.length c0_0) ∧ w'.cell? ⟨gb246, 1, none⟩ = some (.slice A0_1 l0_1.length c0_1) ∧ w'.cell? ⟨gb246, 2, none⟩ = some (.slice A0_2 l0_2.length c0_2)) (ds := []) #[false, false, false, false, false, false, false, false, false, false, false, false, false, false, false, false, false, false, false, false, false, false, false, false, false, false, false, false, false, false, false] q37_ rfl rfl ⟨(blk_cell BK258.out 0).trans rfl, (blk_cell BK258.out 1).trans rfl, (blk_cell BK258.out 2).trans rfl, (blk_cell BK246.out 0).trans rfl, (blk_cell BK246.out 1).trans rfl, (blk_cell BK246.out 2).trans rfl⟩ (fun hHeld => ?_); refine with_tabW retargetlaw04_BlastRuns.tab8 retargetlaw04_BlastRuns.bits8 (fun HT_ HW_ => ?_)
         generalize w69.drew = w70 at HO251 HO254 HO257 HO261 HO265 HO269 HO273 BK246 BK258 HB hHeld ⊢
         refine tz_ (i := 0) (N := some 53) (h := ?_)
         refine tz_ (i := 2) (N := some 55) (h := ?_)
         refine nz_ (i := 1) (N := some 54) (h := fun K hK => ?_)
         refine goes_ Try.func16 q37_ rfl #[.agg #[.slice Ao58 t249.length co58, .slice Ao61 t252.length co61, .slice Ao62 t255.length co62]] (by rfl) rfl rfl q2_ ?_
         with_reducible refine (blast_Check.calls kj3 _ _ t249 _ _ t252 _ _ t255 t275 _ ?side1 ?side2 ?side3 ?side4 ?side5 ?side6 A22.out).mono ?_
         (case side1 => repeat (first | exact (Kd.R_reads' HO251.out).2.2 | (with_reducible refine Kd.C_alloc ?_ _) | (with_reducible refine Kd.C_drewN ?_ _) | (with_reducible refine Kd.C_drew ?_)))
         (case side2 => exact (Kd.R_reads' HO251.out).2.1)
         (case side3 => repeat (first | exact (Kd.R_reads' HO254.out).2.2 | (with_reducible refine Kd.C_alloc ?_ _) | (with_reducible refine Kd.C_drewN ?_ _) | (with_reducible refine Kd.C_drew ?_)))
         (case side4 => exact (Kd.R_reads' HO254.out).2.1)
         (case side5 => repeat (first | exact (Kd.R_reads' HO257.out).2.2 | (with_reducible refine Kd.C_alloc ?_ _) | (with_reducible refine Kd.C_drewN ?_ _) | (with_reducible refine Kd.C_drew ?_)))
         (case side6 => exact (Kd.R_reads' HO257.out).2.1)
         rintro e w71 ⟨rfl, hb⟩
         refine ⟨_, rfl, ?_⟩
         have n0_ := Aside0.mk (Kd.R_below q21_ hb)
         have n1_ := Aside0.mk (Kd.R_below q20_ hb)
         have n2_ := Aside0.mk (Kd.R_below q19_ hb)
         have n3_ := Aside0.mk (Kd.R_below q14_ hb)
         have n4_ := Aside0.mk (Kd.R_below q18_ hb)
         have n5_ := Aside0.mk (Kd.R_below q25_ hb)
         have n6_ := Aside0.mk (Kd.R_below q46_ hb)
         have n7_ := Aside0.mk (blk_below (g := gb246) (o := .cells #[.slice A0_0 l0_0.length c0_0, .slice A0_1 l0_1.length c0_1, .slice A0_2 l0_2.length c0_2] 26 (0, 0)) q8_ hb)
         have n8_ := Aside0.mk (blk_below (g := gb258) (o := .cells #[.slice Ao58 t249.length co58, .slice Ao61 t252.length co61, .slice Ao62 t255.length co62] 26 (0, 0)) q22_ hb)
         have n9_ := Aside0.mk (below_step q4_ hb)
         clear HO251
         clear HO254
         clear HO257
         clear HO261
         clear HO265
         clear HO269
         clear HO273
         clear BK246
         clear BK258
         clear HB
         have HO251 := n0_
         have HO254 := n1_
         have HO257 := n2_
         have HO261 := n3_
         have HO265 := n4_
         have HO269 := n5_
         have HO273 := n6_
         have BK246 := n7_
         have BK258 := n8_
         have HB := n9_
         clear n0_ n1_ n2_ n3_ n4_ n5_ n6_ n7_ n8_ n9_
         (try clear hb)
         (try clear hb2)
         (try clear hk)
         (try clear hi)
         refine hK.out _ _ ⟨(blk_cell BK258.out 0).trans rfl, (blk_cell BK258.out 1).trans rfl, (blk_cell BK258.out 2).trans rfl, (blk_cell BK246.out 0).trans rfl, (blk_cell BK246.out 1).trans rfl, (blk_cell BK246.out 2).trans rfl⟩ (fun hHeld => ?_)
         clear hK K
         refine mz_ (some 54) (h := ?_)
         refine nz_ (i := 3) (N := some 56) (h := fun K hK => ?_)
         refine goes_ Try.func17 q37_ rfl #[.agg #[.slice A0_0 l0_0.length c0_0, .slice A0_1 l0_1.length c0_1, .slice A0_2 l0_2.length c0_2]] (by rfl) rfl rfl q2_ ?_
         with_reducible refine (retargetref04_Check.calls kj3 _ _ l0_0 _ _ l0_1 _ _ l0_2 t276 _ ?side1 ?side2 ?side3 ?side4 ?side5 ?side6 A23.out).mono ?_
         (case side1 => repeat (first | exact (Kd.C_below HR0_0.out HB.out) | (with_reducible refine Kd.C_alloc ?_ _) | (with_reducible refine Kd.C_drewN ?_ _) | (with_reducible refine Kd.C_drew ?_)))
         (case side2 => exact HC0_0.out)
         (case side3 => repeat (first | exact (Kd.C_below HR0_1.out HB.out) | (with_reducible refine Kd.C_alloc ?_ _) | (with_reducible refine Kd.C_drewN ?_ _) | (with_reducible refine Kd.C_drew ?_)))
         (case side4 => exact HC0_1.out)
         (case side5 => repeat (first | exact (Kd.C_below HR0_2.out HB.out) | (with_reducible refine Kd.C_alloc ?_ _) | (with_reducible refine Kd.C_drewN ?_ _) | (with_reducible refine Kd.C_drew ?_)))
         (case side6 => exact HC0_2.out)
         rintro e w72 ⟨rfl, hb⟩
         refine ⟨_, rfl, ?_⟩
         have n0_ := Aside0.mk (Kd.R_below q21_ hb)
         have n1_ := Aside0.mk (Kd.R_below q20_ hb)
         have n2_ := Aside0.mk (Kd.R_below q19_ hb)
         have n3_ := Aside0.mk (Kd.R_below q14_ hb)
         have n4_ := Aside0.mk (Kd.R_below q18_ hb)
         have n5_ := Aside0.mk (Kd.R_below q25_ hb)
         have n6_ := Aside0.mk (Kd.R_below q46_ hb)
         have n7_ := Aside0.mk (blk_below (g := gb246) (o := .cells #[.slice A0_0 l0_0.length c0_0, .slice A0_1 l0_1.length c0_1, .slice A0_2 l0_2.length c0_2] 26 (0, 0)) q8_ hb)
         have n8_ := Aside0.mk (blk_below (g := gb258) (o := .cells #[.slice Ao58 t249.length co58, .slice Ao61 t252.length co61, .slice Ao62 t255.length co62] 26 (0, 0)) q22_ hb)
         have n9_ := Aside0.mk (below_step q4_ hb)
         clear HO251
         clear HO254
         clear HO257
         clear HO261
         clear HO265
         clear HO269
         clear HO273
         clear BK246
         clear BK258
         clear HB
         have HO251 := n0_
         have HO254 := n1_
         have HO257 := n2_
         have HO261 := n3_
         have HO265 := n4_
         have HO269 := n5_
         have HO273 := n6_
         have BK246 := n7_
         have BK258 := n8_
         have HB := n9_
         clear n0_ n1_ n2_ n3_ n4_ n5_ n6_ n7_ n8_ n9_
         (try clear hb)
         (try clear hb2)
         (try clear hk)
         (try clear hi)
         obtain ⟨Ao73, co73, eo73⟩ := Kd.R_slice HO261.out
         (first | subst eo73 | (injection eo73 with f1_ f2_ f3_; have f4_ := f1_.symm; have f5_ := f3_.symm; clear f1_ f2_ f3_; subst f4_; subst f5_))
         obtain ⟨Ao74, co74, eo74⟩ := Kd.R_slice HO265.out
         (first | subst eo74 | (injection eo74 with f1_ f2_ f3_; have f4_ := f1_.symm; have f5_ := f3_.symm; clear f1_ f2_ f3_; subst f4_; subst f5_))
         refine hK.out _ _ ⟨(blk_cell BK258.out 0).trans rfl, (blk_cell BK258.out 1).trans rfl, (blk_cell BK258.out 2).trans rfl, (blk_cell BK246.out 0).trans rfl, (blk_cell BK246.out 1).trans rfl, (blk_cell BK246.out 2).trans rfl⟩ (fun hHeld => ?_)
         clear hK K
         refine mz_ (some 56) (h := ?_)
         refine pz_ (i := 4) (N := some 57) (h := ?_)
         refine pz_ (i := 5) (N := some 58) (h := ?_)
         refine pz_ (i := 6) (N := some 59) (h := ?_)
         refine pz_ (i := 7) (N := some 60) (h := ?_)
         refine nz_ (i := 8) (N := some 61) (h := fun K hK => ?_)
         refine goes_ Try.func18 q37_ rfl #[.slice Ao73 t259.length co73, .slice Ao74 t263.length co74] (by rfl) rfl rfl q2_ ?_
         with_reducible refine (retargetref04_SameBools.calls kj3 _ _ t259 _ _ t263 true _ ?side1 ?side2 ?side3 ?side4 A25.out).mono ?_
         (case side1 => repeat (first | exact (Kd.R_reads' HO261.out).2.2 | (with_reducible refine Kd.C_alloc ?_ _) | (with_reducible refine Kd.C_drewN ?_ _) | (with_reducible refine Kd.C_drew ?_)))
         (case side2 => exact (Kd.R_reads' HO261.out).2.1)
         (case side3 => repeat (first | exact (Kd.R_reads' HO265.out).2.2 | (with_reducible refine Kd.C_alloc ?_ _) | (with_reducible refine Kd.C_drewN ?_ _) | (with_reducible refine Kd.C_drew ?_)))
         (case side4 => exact (Kd.R_reads' HO265.out).2.1)
         rintro e w' ⟨rfl, ⟨nd, rfl⟩⟩
         refine ⟨_, rfl, ?_⟩
         obtain ⟨Ao75, co75, eo75⟩ := Kd.R_slice HO269.out
         (first | subst eo75 | (injection eo75 with f1_ f2_ f3_; have f4_ := f1_.symm; have f5_ := f3_.symm; clear f1_ f2_ f3_; subst f4_; subst f5_))
         obtain ⟨Ao76, co76, eo76⟩ := Kd.R_slice HO273.out
         (first | subst eo76 | (injection eo76 with f1_ f2_ f3_; have f4_ := f1_.symm; have f5_ := f3_.symm; clear f1_ f2_ f3_; subst f4_; subst f5_))
         refine hK.out _ _ ⟨(blk_cell BK258.out 0).trans rfl, (blk_cell BK258.out 1).trans rfl, (blk_cell BK258.out 2).trans rfl, (blk_cell BK246.out 0).trans rfl, (blk_cell BK246.out 1).trans rfl, (blk_cell BK246.out 2).trans rfl⟩ (fun hHeld => ?_)
         clear hK K
         refine mz_ (some 61) (h := ?_)
         refine pz_ (i := 9) (N := some 62) (h := ?_)
         refine pz_ (i := 10) (N := some 63) (h := ?_)
         refine pz_ (i := 11) (N := some 64) (h := ?_)
         refine pz_ (i := 12) (N := some 65) (h := ?_)
         refine pz_ (i := 13) (N := some 66) (h := ?_)
         refine pz_ (i := 14) (N := some 67) (h := ?_)
         refine pz_ (i := 15) (N := some 68) (h := ?_)
         refine pz_ (i := 16) (N := some 69) (h := ?_)
         refine pz_ (i := 17) (N := some 70) (h := ?_)
         refine nz_ (i := 18) (N := some 71) (h := fun K hK => ?_)
         refine goes_ Try.func18 q37_ rfl #[.slice Ao75 t267.length co75, .slice Ao76 t271.length co76] (by rfl) rfl rfl q2_ ?_
         with_reducible refine (retargetref04_SameBools.calls kj3 _ _ t267 _ _ t271 true _ ?side1 ?side2 ?side3 ?side4 A28.out).mono ?_
         (case side1 => repeat (first | exact (Kd.R_reads' HO269.out).2.2 | (with_reducible refine Kd.C_alloc ?_ _) | (with_reducible refine Kd.C_drewN ?_ _) | (with_reducible refine Kd.C_drew ?_)))
         (case side2 => exact (Kd.R_reads' HO269.out).2.1)
         (case side3 => repeat (first | exact (Kd.R_reads' HO273.out).2.2 | (with_reducible refine Kd.C_alloc ?_ _) | (with_reducible refine Kd.C_drewN ?_ _) | (with_reducible refine Kd.C_drew ?_)))
         (case side4 => exact (Kd.R_reads' HO273.out).2.1)
         rintro e w' ⟨rfl, ⟨nd, rfl⟩⟩
         refine ⟨_, rfl, ?_⟩
         refine hK.out _ _ ⟨(blk_cell BK258.out 0).trans rfl, (blk_cell BK258.out 1).trans rfl, (blk_cell BK258.out 2).trans rfl, (blk_cell BK246.out 0).trans rfl, (blk_cell BK246.out 1).trans rfl, (blk_cell BK246.out 2).trans rfl⟩ (fun hHeld => ?_)
         clear hK K
         refine mz_ (some 71) (h := ?_)
         refine pz_ (i := 19) (N := some 72) (h := ?_)
         refine pz_ (i := 20) (N := some 73) (h := ?_)
         refine pz_ (i := 21) (N := some 74) (h := ?_)
         refine pz_ (i := 22) (N := some 75) (h := ?_)
         refine pz_ (i := 23) (N := some 76) (h := ?_)
         refine pz_ (i := 24) (N := some 77) (h := ?_)
         refine pz_ (i := 25) (N := some 78) (h := ?_)
         refine oz_ (i := 26) (N := some 79) (h := ?_)
         refine oz_ (i := 27) (N := some 80) (h := ?_)
         refine oz_ (i := 28) (N := some 81) (h := ?_)
         refine pz_ (i := 29) (N := some 82) (h := ?_)
         refine pz_ (i := 30) (N := some 6) (h := ?_)
         refine done_ (done_of HT_.out q37_) ?_
         try go_wp2
         go_ret
         exact ⟨by first | rfl | (simp [errW_none, errW_some] <;> rfl) | (simp [*, errW_none, errW_some] <;> rfl), by repeat (first | (with_reducible first | exact HB.out | apply below_alloc | apply pw_below_drewN | apply below_drew1 | refine below_set ?_ GE246.out | refine below_set ?_ GE258.out) | exact HB.out)⟩
       ·replace c29 := Bool.eq_false_iff.mpr c29
        subst c29
        have H1 : (some false) = some r := by rw [if_neg (show ¬ (false = true) by decide)] at H; exact H
        clear H
        have H := H1
        clear H1
        obtain rfl := Option.some.inj H
        have hcz77_0 : wc.cell? ⟨gb246, 0, none⟩ = some (.slice A0_0 l0_0.length c0_0) := (blk_cell BK246.out 0).trans rfl
        have hcz77_1 : wc.cell? ⟨gb246, 1, none⟩ = some (.slice A0_1 l0_1.length c0_1) := (blk_cell BK246.out 1).trans rfl
        have hcz77_2 : wc.cell? ⟨gb246, 2, none⟩ = some (.slice A0_2 l0_2.length c0_2) := (blk_cell BK246.out 2).trans rfl
        have hfz77_0 := blk_frozen BK246.out 0
        have hfz77_1 := blk_frozen BK246.out 1
        have hfz77_2 := blk_frozen BK246.out 2
        try go_wp2_with (first | ((with_reducible refine gate_callee (f := 6) rfl ?_); refine goesL_ (some 28) rfl rfl Try.func6 q37_ rfl #[.agg #[.slice A0_0 l0_0.length c0_0, .slice A0_1 l0_1.length c0_1, .slice A0_2 l0_2.length c0_2]] rfl q2_ ?_; (with_reducible refine (retargetref04_Twin.calls _ _ l0_0 _ _ l0_1 _ _ l0_2 t249 t252 t255 _ ?side1 ?side2 ?side3 ?side4 ?side5 ?side6 A17.out).mono ?_); (case side1 => repeat (first | exact (Kd.C_below HR0_0.out HB.out) | (with_reducible refine Kd.C_alloc ?_ _) | (with_reducible refine Kd.C_drewN ?_ _) | (with_reducible refine Kd.C_drew ?_))); (case side2 => exact HC0_0.out); (case side3 => repeat (first | exact (Kd.C_below HR0_1.out HB.out) | (with_reducible refine Kd.C_alloc ?_ _) | (with_reducible refine Kd.C_drewN ?_ _) | (with_reducible refine Kd.C_drew ?_))); (case side4 => exact HC0_1.out); (case side5 => repeat (first | exact (Kd.C_below HR0_2.out HB.out) | (with_reducible refine Kd.C_alloc ?_ _) | (with_reducible refine Kd.C_drewN ?_ _) | (with_reducible refine Kd.C_drew ?_))); (case side6 => exact HC0_2.out); rintro e w78 ⟨v250, v253, v256, rfl, ho0, ho1, ho2, hb⟩; refine ⟨_, rfl, ?_⟩; have n0_ := Aside0.mk (Kd.R_lower ho0 (below_size q7_)); have n1_ := Aside0.mk (Kd.R_lower ho1 (below_size q7_)); have n2_ := Aside0.mk (Kd.R_lower ho2 (below_size q7_)); have n3_ := Aside0.mk (blk_below (g := gb246) (o := .cells #[.slice A0_0 l0_0.length c0_0, .slice A0_1 l0_1.length c0_1, .slice A0_2 l0_2.length c0_2] 26 (0, 0)) q8_ hb); have n4_ := Aside0.mk (below_step q7_ hb); clear BK246; clear HB; have HO251 := n0_; have HO254 := n1_; have HO257 := n2_; have BK246 := n3_; have HB := n4_; clear n0_ n1_ n2_ n3_ n4_; (try clear hb); (try clear hb2); (try clear hk); (try clear hi); (try clear ho0); (try clear ho1); (try clear ho2)) | ((with_reducible refine gate_dst (N := 7) rfl ?_); (try (refine gate_guard (by rfl) ?_; dsimp only)); refine box_event ?hg (N := 7) ?hd (cs := #[.slice none 0 0, .slice none 0 0, .slice none 0 0]) (t := 26) ?hr ?_; (case hd => rfl); (case hg => rfl); (case hr => first | (go_simp; done) | (go_simp; rfl)); intro gb258 hg w79 hbox hb; have n0_ := Aside0.mk (Kd.R_below q21_ hb); have n1_ := Aside0.mk (Kd.R_below q20_ hb); have n2_ := Aside0.mk (Kd.R_below q19_ hb); have n3_ := Aside0.mk (blk_below (g := gb246) (o := .cells #[.slice A0_0 l0_0.length c0_0, .slice A0_1 l0_1.length c0_1, .slice A0_2 l0_2.length c0_2] 26 (0, 0)) q8_ hb); have n4_ := Aside0.mk (below_step q7_ hb); have n5_ := Aside0.mk (hbox); have n6_ := Aside0.mk ((by rw [hg]; exact (below_size q7_) : w.heap.size ≤ gb258)); have n7_ := Aside0.mk ((by rw [hg]; exact (below_size q7_) : w.heap.size ≤ gb258)); have n8_ := Aside0.mk ((by rw [hg]; exact Nat.ne_of_lt (blk_lt (g := gb246) (o := .cells #[.slice A0_0 l0_0.length c0_0, .slice A0_1 l0_1.length c0_1, .slice A0_2 l0_2.length c0_2] 26 (0, 0)) q8_) : gb246 ≠ gb258)); have n9_ := Aside0.mk ((by rw [hg]; exact Nat.ne_of_gt (blk_lt (g := gb246) (o := .cells #[.slice A0_0 l0_0.length c0_0, .slice A0_1 l0_1.length c0_1, .slice A0_2 l0_2.length c0_2] 26 (0, 0)) q8_) : gb258 ≠ gb246)); clear HO251; clear HO254; clear HO257; clear BK246; clear HB; have HO251 := n0_; have HO254 := n1_; have HO257 := n2_; have BK246 := n3_; have HB := n4_; have BK258 := n5_; have GW258 := n6_; have GE258 := n7_; have NB246_258 := n8_; have NB258_246 := n9_; clear n0_ n1_ n2_ n3_ n4_ n5_ n6_ n7_ n8_ n9_; clear hb hbox hg; obtain ⟨Ao80, co80, eo80⟩ := Kd.R_slice HO251.out; subst eo80; have hnb81 := NB258_246.out; have hnc81 := NB246_258.out; have hcz82_0 : w79.cell? ⟨gb258, 0, none⟩ = some (.slice none 0 0) := (blk_cell BK258.out 0).trans rfl; have hcz82_1 : w79.cell? ⟨gb258, 1, none⟩ = some (.slice none 0 0) := (blk_cell BK258.out 1).trans rfl; have hcz82_2 : w79.cell? ⟨gb258, 2, none⟩ = some (.slice none 0 0) := (blk_cell BK258.out 2).trans rfl; have hfz82_0 := blk_frozen BK258.out 0; have hfz82_1 := blk_frozen BK258.out 1; have hfz82_2 := blk_frozen BK258.out 2; obtain ⟨Ao83, co83, eo83⟩ := Kd.R_slice HO254.out; subst eo83; obtain ⟨Ao84, co84, eo84⟩ := Kd.R_slice HO257.out; subst eo84) | ((with_reducible refine gate_callee (f := 12) rfl ?_); refine goesL_ (some 32) rfl rfl Try.func12 q37_ rfl #[.agg #[.slice Ao80 t249.length co80, .slice Ao83 t252.length co83, .slice Ao84 t255.length co84], .slice A1 l1.length c1] rfl q2_ ?_; (with_reducible refine (blast_Run.calls kj3 _ _ t249 _ _ t252 _ _ t255 _ _ l1 t259 t262 _ ?side1 ?side2 ?side3 ?side4 ?side5 ?side6 ?side7 ?side8 A18.out).mono ?_); (case side1 => refine (Kd.R_reads' (e := 52) (base := w.heap.size) (ok := fun k_ => True) (n := t249.length) (c := co80) ?_).2.2; exact (by (with_reducible repeat (first | apply Kd.R_alloc | apply Kd.R_drewN | apply Kd.R_drew)); exact (Kd.R_mono (Kd.R_far (p := ⟨gb258, 2, none⟩) (Kd.R_far (p := ⟨gb258, 1, none⟩) (Kd.R_far (p := ⟨gb258, 0, none⟩) (Kd.R_types HO251.out BK258.out q55_) (fun _ hk => hk.2) (.slice Ao80 t249.length co80)) (fun _ hk => hk.2) (.slice Ao83 t252.length co83)) (fun _ hk => hk.2) (.slice Ao84 t255.length co84)) (fun _ h_ => h_.1)))); (case side2 => exact (Kd.R_reads' HO251.out).2.1); (case side3 => refine (Kd.R_reads' (e := 54) (base := w.heap.size) (ok := fun k_ => True) (n := t252.length) (c := co83) ?_).2.2; exact (by (with_reducible repeat (first | apply Kd.R_alloc | apply Kd.R_drewN | apply Kd.R_drew)); exact (Kd.R_mono (Kd.R_far (p := ⟨gb258, 2, none⟩) (Kd.R_far (p := ⟨gb258, 1, none⟩) (Kd.R_far (p := ⟨gb258, 0, none⟩) (Kd.R_types HO254.out BK258.out q55_) (fun _ hk => hk.2) (.slice Ao80 t249.length co80)) (fun _ hk => hk.2) (.slice Ao83 t252.length co83)) (fun _ hk => hk.2) (.slice Ao84 t255.length co84)) (fun _ h_ => h_.1)))); (case side4 => exact (Kd.R_reads' HO254.out).2.1); (case side5 => refine (Kd.R_reads' (e := 3) (base := w.heap.size) (ok := fun k_ => True) (n := t255.length) (c := co84) ?_).2.2; exact (by (with_reducible repeat (first | apply Kd.R_alloc | apply Kd.R_drewN | apply Kd.R_drew)); exact (Kd.R_mono (Kd.R_far (p := ⟨gb258, 2, none⟩) (Kd.R_far (p := ⟨gb258, 1, none⟩) (Kd.R_far (p := ⟨gb258, 0, none⟩) (Kd.R_types HO257.out BK258.out q55_) (fun _ hk => hk.2) (.slice Ao80 t249.length co80)) (fun _ hk => hk.2) (.slice Ao83 t252.length co83)) (fun _ hk => hk.2) (.slice Ao84 t255.length co84)) (fun _ h_ => h_.1)))); (case side6 => exact (Kd.R_reads' HO257.out).2.1); (case side7 => exact Kd.C_below HR1.out q4_); (case side8 => exact HC1.out); rintro e w85 ⟨v260, rfl, ho0, hb⟩; refine ⟨_, rfl, ?_⟩; have n0_ := Aside0.mk (Kd.R_below (by (with_reducible repeat (first | apply Kd.R_alloc | apply Kd.R_drewN | apply Kd.R_drew)); exact (Kd.R_mono (Kd.R_far (p := ⟨gb258, 2, none⟩) (Kd.R_far (p := ⟨gb258, 1, none⟩) (Kd.R_far (p := ⟨gb258, 0, none⟩) (Kd.R_types HO251.out BK258.out q55_) (fun _ hk => hk.2) (.slice Ao80 t249.length co80)) (fun _ hk => hk.2) (.slice Ao83 t252.length co83)) (fun _ hk => hk.2) (.slice Ao84 t255.length co84)) (fun _ h_ => h_.1))) hb); have n1_ := Aside0.mk (Kd.R_below (by (with_reducible repeat (first | apply Kd.R_alloc | apply Kd.R_drewN | apply Kd.R_drew)); exact (Kd.R_mono (Kd.R_far (p := ⟨gb258, 2, none⟩) (Kd.R_far (p := ⟨gb258, 1, none⟩) (Kd.R_far (p := ⟨gb258, 0, none⟩) (Kd.R_types HO254.out BK258.out q55_) (fun _ hk => hk.2) (.slice Ao80 t249.length co80)) (fun _ hk => hk.2) (.slice Ao83 t252.length co83)) (fun _ hk => hk.2) (.slice Ao84 t255.length co84)) (fun _ h_ => h_.1))) hb); have n2_ := Aside0.mk (Kd.R_below (by (with_reducible repeat (first | apply Kd.R_alloc | apply Kd.R_drewN | apply Kd.R_drew)); exact (Kd.R_mono (Kd.R_far (p := ⟨gb258, 2, none⟩) (Kd.R_far (p := ⟨gb258, 1, none⟩) (Kd.R_far (p := ⟨gb258, 0, none⟩) (Kd.R_types HO257.out BK258.out q55_) (fun _ hk => hk.2) (.slice Ao80 t249.length co80)) (fun _ hk => hk.2) (.slice Ao83 t252.length co83)) (fun _ hk => hk.2) (.slice Ao84 t255.length co84)) (fun _ h_ => h_.1))) hb); have n3_ := Aside0.mk (Kd.R_lower ho0 (below_size q4_)); have n4_ := Aside0.mk (blk_below (g := gb246) (o := .cells #[.slice A0_0 l0_0.length c0_0, .slice A0_1 l0_1.length c0_1, .slice A0_2 l0_2.length c0_2] 26 (0, 0)) q23_ hb); have n5_ := Aside0.mk (blk_below (g := gb258) (o := .cells #[.slice Ao80 t249.length co80, .slice Ao83 t252.length co83, .slice Ao84 t255.length co84] 26 (0, 0)) (by (with_reducible repeat (first | refine blk_drewN ?_ _ | refine blk_drew ?_ | refine blk_alloc ?_ _)); refine blk_put (cs := #[.slice Ao80 t249.length co80, .slice Ao83 t252.length co83, .slice none 0 0]) ?_ 2 _ rfl; (with_reducible repeat (first | refine blk_drewN ?_ _ | refine blk_drew ?_ | refine blk_alloc ?_ _)); refine blk_put (cs := #[.slice Ao80 t249.length co80, .slice none 0 0, .slice none 0 0]) ?_ 1 _ rfl; (with_reducible repeat (first | refine blk_drewN ?_ _ | refine blk_drew ?_ | refine blk_alloc ?_ _)); refine blk_put (cs := #[.slice none 0 0, .slice none 0 0, .slice none 0 0]) ?_ 0 _ rfl; (with_reducible repeat (first | refine blk_drewN ?_ _ | refine blk_drew ?_ | refine blk_alloc ?_ _)); exact BK258.out) hb); have n6_ := Aside0.mk (below_step q4_ hb); clear HO251; clear HO254; clear HO257; clear BK246; clear BK258; clear HB; have HO251 := n0_; have HO254 := n1_; have HO257 := n2_; have HO261 := n3_; have BK246 := n4_; have BK258 := n5_; have HB := n6_; clear n0_ n1_ n2_ n3_ n4_ n5_ n6_; (try clear hb); (try clear hb2); (try clear hk); (try clear hi); (try clear ho0); have hcz86_0 : w85.cell? ⟨gb246, 0, none⟩ = some (.slice A0_0 l0_0.length c0_0) := (blk_cell BK246.out 0).trans rfl; have hcz86_1 : w85.cell? ⟨gb246, 1, none⟩ = some (.slice A0_1 l0_1.length c0_1) := (blk_cell BK246.out 1).trans rfl; have hcz86_2 : w85.cell? ⟨gb246, 2, none⟩ = some (.slice A0_2 l0_2.length c0_2) := (blk_cell BK246.out 2).trans rfl; have hfz86_0 := blk_frozen BK246.out 0; have hfz86_1 := blk_frozen BK246.out 1; have hfz86_2 := blk_frozen BK246.out 2) | ((with_reducible refine gate_callee (f := 13) rfl ?_); refine goesL_ (some 38) rfl rfl Try.func13 q37_ rfl #[.agg #[.slice A0_0 l0_0.length c0_0, .slice A0_1 l0_1.length c0_1, .slice A0_2 l0_2.length c0_2], .slice A1 l1.length c1] rfl q2_ ?_; (with_reducible refine (retargetref04_Run.calls kj3 _ _ l0_0 _ _ l0_1 _ _ l0_2 _ _ l1 t263 t266 _ ?side1 ?side2 ?side3 ?side4 ?side5 ?side6 ?side7 ?side8 A19.out).mono ?_); (case side1 => repeat (first | exact (Kd.C_below HR0_0.out HB.out) | (with_reducible refine Kd.C_alloc ?_ _) | (with_reducible refine Kd.C_drewN ?_ _) | (with_reducible refine Kd.C_drew ?_))); (case side2 => exact HC0_0.out); (case side3 => repeat (first | exact (Kd.C_below HR0_1.out HB.out) | (with_reducible refine Kd.C_alloc ?_ _) | (with_reducible refine Kd.C_drewN ?_ _) | (with_reducible refine Kd.C_drew ?_))); (case side4 => exact HC0_1.out); (case side5 => repeat (first | exact (Kd.C_below HR0_2.out HB.out) | (with_reducible refine Kd.C_alloc ?_ _) | (with_reducible refine Kd.C_drewN ?_ _) | (with_reducible refine Kd.C_drew ?_))); (case side6 => exact HC0_2.out); (case side7 => repeat (first | exact (Kd.C_below HR1.out HB.out) | (with_reducible refine Kd.C_alloc ?_ _) | (with_reducible refine Kd.C_drewN ?_ _) | (with_reducible refine Kd.C_drew ?_))); (case side8 => exact HC1.out); rintro e w87 ⟨v264, rfl, ho0, hb⟩; refine ⟨_, rfl, ?_⟩; have n0_ := Aside0.mk (Kd.R_below q21_ hb); have n1_ := Aside0.mk (Kd.R_below q20_ hb); have n2_ := Aside0.mk (Kd.R_below q19_ hb); have n3_ := Aside0.mk (Kd.R_elder' q14_ (Kd.R_base ho0) hb); have n4_ := Aside0.mk (Kd.R_lower (Kd.R_new' ho0 (Kd.R_lt q14_)) (below_size q4_)); have n5_ := Aside0.mk (blk_below (g := gb246) (o := .cells #[.slice A0_0 l0_0.length c0_0, .slice A0_1 l0_1.length c0_1, .slice A0_2 l0_2.length c0_2] 26 (0, 0)) q8_ hb); have n6_ := Aside0.mk (blk_below (g := gb258) (o := .cells #[.slice Ao80 t249.length co80, .slice Ao83 t252.length co83, .slice Ao84 t255.length co84] 26 (0, 0)) q22_ hb); have n7_ := Aside0.mk (below_step q4_ hb); clear HO251; clear HO254; clear HO257; clear HO261; clear BK246; clear BK258; clear HB; have HO251 := n0_; have HO254 := n1_; have HO257 := n2_; have HO261 := n3_; have HO265 := n4_; have BK246 := n5_; have BK258 := n6_; have HB := n7_; clear n0_ n1_ n2_ n3_ n4_ n5_ n6_ n7_; (try clear hb); (try clear hb2); (try clear hk); (try clear hi); (try clear ho0); have hcz88_0 : w87.cell? ⟨gb258, 0, none⟩ = some (.slice Ao80 t249.length co80) := (blk_cell BK258.out 0).trans rfl; have hcz88_1 : w87.cell? ⟨gb258, 1, none⟩ = some (.slice Ao83 t252.length co83) := (blk_cell BK258.out 1).trans rfl; have hcz88_2 : w87.cell? ⟨gb258, 2, none⟩ = some (.slice Ao84 t255.length co84) := (blk_cell BK258.out 2).trans rfl; have hfz88_0 := blk_frozen BK258.out 0; have hfz88_1 := blk_frozen BK258.out 1; have hfz88_2 := blk_frozen BK258.out 2) | ((with_reducible refine gate_callee (f := 14) rfl ?_); refine goesL_ (some 44) rfl rfl Try.func14 q37_ rfl #[.agg #[.slice Ao80 t249.length co80, .slice Ao83 t252.length co83, .slice Ao84 t255.length co84], .slice A2 l2.length c2] rfl q2_ ?_; (with_reducible refine (blast_Inputs.calls kj3 _ _ t249 _ _ t252 _ _ t255 _ _ l2 t267 t270 _ ?side1 ?side2 ?side3 ?side4 ?side5 ?side6 ?side7 ?side8 A20.out).mono ?_); (case side1 => repeat (first | exact (Kd.R_reads' HO251.out).2.2 | (with_reducible refine Kd.C_alloc ?_ _) | (with_reducible refine Kd.C_drewN ?_ _) | (with_reducible refine Kd.C_drew ?_))); (case side2 => exact (Kd.R_reads' HO251.out).2.1); (case side3 => repeat (first | exact (Kd.R_reads' HO254.out).2.2 | (with_reducible refine Kd.C_alloc ?_ _) | (with_reducible refine Kd.C_drewN ?_ _) | (with_reducible refine Kd.C_drew ?_))); (case side4 => exact (Kd.R_reads' HO254.out).2.1); (case side5 => repeat (first | exact (Kd.R_reads' HO257.out).2.2 | (with_reducible refine Kd.C_alloc ?_ _) | (with_reducible refine Kd.C_drewN ?_ _) | (with_reducible refine Kd.C_drew ?_))); (case side6 => exact (Kd.R_reads' HO257.out).2.1); (case side7 => repeat (first | exact (Kd.C_below HR2.out HB.out) | (with_reducible refine Kd.C_alloc ?_ _) | (with_reducible refine Kd.C_drewN ?_ _) | (with_reducible refine Kd.C_drew ?_))); (case side8 => exact HC2.out); rintro e w89 ⟨v268, rfl, ho0, hb⟩; refine ⟨_, rfl, ?_⟩; have n0_ := Aside0.mk (Kd.R_below q21_ hb); have n1_ := Aside0.mk (Kd.R_below q20_ hb); have n2_ := Aside0.mk (Kd.R_below q19_ hb); have n3_ := Aside0.mk (Kd.R_elder' q14_ (Kd.R_base ho0) hb); have n4_ := Aside0.mk (Kd.R_elder' q18_ (Kd.R_base ho0) hb); have n5_ := Aside0.mk (Kd.R_lower (Kd.R_new' (Kd.R_new' ho0 (Kd.R_lt q14_)) (Kd.R_lt q18_)) (below_size q4_)); have n6_ := Aside0.mk (blk_below (g := gb246) (o := .cells #[.slice A0_0 l0_0.length c0_0, .slice A0_1 l0_1.length c0_1, .slice A0_2 l0_2.length c0_2] 26 (0, 0)) q8_ hb); have n7_ := Aside0.mk (blk_below (g := gb258) (o := .cells #[.slice Ao80 t249.length co80, .slice Ao83 t252.length co83, .slice Ao84 t255.length co84] 26 (0, 0)) q22_ hb); have n8_ := Aside0.mk (below_step q4_ hb); clear HO251; clear HO254; clear HO257; clear HO261; clear HO265; clear BK246; clear BK258; clear HB; have HO251 := n0_; have HO254 := n1_; have HO257 := n2_; have HO261 := n3_; have HO265 := n4_; have HO269 := n5_; have BK246 := n6_; have BK258 := n7_; have HB := n8_; clear n0_ n1_ n2_ n3_ n4_ n5_ n6_ n7_ n8_; (try clear hb); (try clear hb2); (try clear hk); (try clear hi); (try clear ho0); have hcz90_0 : w89.cell? ⟨gb246, 0, none⟩ = some (.slice A0_0 l0_0.length c0_0) := (blk_cell BK246.out 0).trans rfl; have hcz90_1 : w89.cell? ⟨gb246, 1, none⟩ = some (.slice A0_1 l0_1.length c0_1) := (blk_cell BK246.out 1).trans rfl; have hcz90_2 : w89.cell? ⟨gb246, 2, none⟩ = some (.slice A0_2 l0_2.length c0_2) := (blk_cell BK246.out 2).trans rfl; have hfz90_0 := blk_frozen BK246.out 0; have hfz90_1 := blk_frozen BK246.out 1; have hfz90_2 := blk_frozen BK246.out 2) | ((with_reducible refine gate_callee (f := 15) rfl ?_); refine goesL_ (some 50) rfl rfl Try.func15 q37_ rfl #[.agg #[.slice A0_0 l0_0.length c0_0, .slice A0_1 l0_1.length c0_1, .slice A0_2 l0_2.length c0_2], .slice A2 l2.length c2] rfl q2_ ?_; (with_reducible refine (retargetref04_Inputs.calls kj3 _ _ l0_0 _ _ l0_1 _ _ l0_2 _ _ l2 t271 t274 _ ?side1 ?side2 ?side3 ?side4 ?side5 ?side6 ?side7 ?side8 A21.out).mono ?_); (case side1 => repeat (first | exact (Kd.C_below HR0_0.out HB.out) | (with_reducible refine Kd.C_alloc ?_ _) | (with_reducible refine Kd.C_drewN ?_ _) | (with_reducible refine Kd.C_drew ?_))); (case side2 => exact HC0_0.out); (case side3 => repeat (first | exact (Kd.C_below HR0_1.out HB.out) | (with_reducible refine Kd.C_alloc ?_ _) | (with_reducible refine Kd.C_drewN ?_ _) | (with_reducible refine Kd.C_drew ?_))); (case side4 => exact HC0_1.out); (case side5 => repeat (first | exact (Kd.C_below HR0_2.out HB.out) | (with_reducible refine Kd.C_alloc ?_ _) | (with_reducible refine Kd.C_drewN ?_ _) | (with_reducible refine Kd.C_drew ?_))); (case side6 => exact HC0_2.out); (case side7 => repeat (first | exact (Kd.C_below HR2.out HB.out) | (with_reducible refine Kd.C_alloc ?_ _) | (with_reducible refine Kd.C_drewN ?_ _) | (with_reducible refine Kd.C_drew ?_))); (case side8 => exact HC2.out); rintro e w91 ⟨v272, rfl, ho0, hb⟩; refine ⟨_, rfl, ?_⟩; have n0_ := Aside0.mk (Kd.R_below q21_ hb); have n1_ := Aside0.mk (Kd.R_below q20_ hb); have n2_ := Aside0.mk (Kd.R_below q19_ hb); have n3_ := Aside0.mk (Kd.R_elder' q14_ (Kd.R_base ho0) hb); have n4_ := Aside0.mk (Kd.R_elder' q18_ (Kd.R_base ho0) hb); have n5_ := Aside0.mk (Kd.R_elder' q25_ (Kd.R_base ho0) hb); have n6_ := Aside0.mk (Kd.R_lower (Kd.R_new' (Kd.R_new' (Kd.R_new' ho0 (Kd.R_lt q14_)) (Kd.R_lt q18_)) (Kd.R_lt q25_)) (below_size q4_)); have n7_ := Aside0.mk (blk_below (g := gb246) (o := .cells #[.slice A0_0 l0_0.length c0_0, .slice A0_1 l0_1.length c0_1, .slice A0_2 l0_2.length c0_2] 26 (0, 0)) q8_ hb); have n8_ := Aside0.mk (blk_below (g := gb258) (o := .cells #[.slice Ao80 t249.length co80, .slice Ao83 t252.length co83, .slice Ao84 t255.length co84] 26 (0, 0)) q22_ hb); have n9_ := Aside0.mk (below_step q4_ hb); clear HO251; clear HO254; clear HO257; clear HO261; clear HO265; clear HO269; clear BK246; clear BK258; clear HB; have HO251 := n0_; have HO254 := n1_; have HO257 := n2_; have HO261 := n3_; have HO265 := n4_; have HO269 := n5_; have HO273 := n6_; have BK246 := n7_; have BK258 := n8_; have HB := n9_; clear n0_ n1_ n2_ n3_ n4_ n5_ n6_ n7_ n8_ n9_; (try clear hb); (try clear hb2); (try clear hk); (try clear hi); (try clear ho0)))
        have n0_ := Aside0.mk (Kd.R_drew HO251.out)
        have n1_ := Aside0.mk (Kd.R_drew HO254.out)
        have n2_ := Aside0.mk (Kd.R_drew HO257.out)
        have n3_ := Aside0.mk (Kd.R_drew HO261.out)
        have n4_ := Aside0.mk (Kd.R_drew HO265.out)
        have n5_ := Aside0.mk (Kd.R_drew HO269.out)
        have n6_ := Aside0.mk (Kd.R_drew HO273.out)
        have n7_ := Aside0.mk (blk_drew BK246.out)
        have n8_ := Aside0.mk (blk_drew BK258.out)
        have n9_ := Aside0.mk (below_drew1 HB.out)
        clear HO251
        clear HO254
        clear HO257
        clear HO261
        clear HO265
        clear HO269
        clear HO273
        clear BK246
        clear BK258
        clear HB
        have HO251 := n0_
        have HO254 := n1_
        have HO257 := n2_
        have HO261 := n3_
        have HO265 := n4_
        have HO269 := n5_
        have HO273 := n6_
        have BK246 := n7_
        have BK258 := n8_
        have HB := n9_
        clear n0_ n1_ n2_ n3_ n4_ n5_ n6_ n7_ n8_ n9_
        refine start_ (n := 31) (S := fun w' => w'.cell? ⟨gb258, 0, none⟩ = some (.slice Ao80 t249.length co80) ∧ w'.cell? ⟨gb258, 1, none⟩ = some (.slice Ao83 t252.length co83) ∧ w'.cell? ⟨gb258, 2, none⟩ = some (.slice Ao84 t255.length co84) ∧ w'.cell? ⟨gb246, 0, none⟩ = some (.slice A0_0 l0_0.length c0_0) ∧ w'.cell? ⟨gb246, 1, none⟩ = some (.slice A0_1 l0_1.length c0_1) ∧ w'.cell? ⟨gb246, 2, none⟩ = some (.slice A0_2 l0_2.length c0_2)) (ds := []) #[false, false, false, false, false, false, false, false, false, false, false, false, false, false, false, false, false, false, false, false, false, false, false, false, false, false, false, false, false, false, false] q37_ rfl rfl ⟨(blk_cell BK258.out 0).trans rfl, (blk_cell BK258.out 1).trans rfl, (blk_cell BK258.out 2).trans rfl, (blk_cell BK246.out 0).trans rfl, (blk_cell BK246.out 1).trans rfl, (blk_cell BK246.out 2).trans rfl⟩ (fun hHeld => ?_); refine with_tabW retargetlaw04_BlastRuns.tab8 retargetlaw04_BlastRuns.bits8 (fun HT_ HW_ => ?_)
        generalize w91.drew = w92 at HO251 HO254 HO257 HO261 HO265 HO269 HO273 BK246 BK258 HB hHeld ⊢
        refine tz_ (i := 0) (N := some 53) (h := ?_)
        refine tz_ (i := 2) (N := some 55) (h := ?_)
        refine nz_ (i := 1) (N := some 54) (h := fun K hK => ?_)
        refine goes_ Try.func16 q37_ rfl #[.agg #[.slice Ao80 t249.length co80, .slice Ao83 t252.length co83, .slice Ao84 t255.length co84]] (by rfl) rfl rfl q2_ ?_
        with_reducible refine (blast_Check.calls kj3 _ _ t249 _ _ t252 _ _ t255 t275 _ ?side1 ?side2 ?side3 ?side4 ?side5 ?side6 A22.out).mono ?_
        (case side1 => repeat (first | exact (Kd.R_reads' HO251.out).2.2 | (with_reducible refine Kd.C_alloc ?_ _) | (with_reducible refine Kd.C_drewN ?_ _) | (with_reducible refine Kd.C_drew ?_)))
        (case side2 => exact (Kd.R_reads' HO251.out).2.1)
        (case side3 => repeat (first | exact (Kd.R_reads' HO254.out).2.2 | (with_reducible refine Kd.C_alloc ?_ _) | (with_reducible refine Kd.C_drewN ?_ _) | (with_reducible refine Kd.C_drew ?_)))
        (case side4 => exact (Kd.R_reads' HO254.out).2.1)
        (case side5 => repeat (first | exact (Kd.R_reads' HO257.out).2.2 | (with_reducible refine Kd.C_alloc ?_ _) | (with_reducible refine Kd.C_drewN ?_ _) | (with_reducible refine Kd.C_drew ?_)))
        (case side6 => exact (Kd.R_reads' HO257.out).2.1)
        rintro e w93 ⟨rfl, hb⟩
        refine ⟨_, rfl, ?_⟩
        have n0_ := Aside0.mk (Kd.R_below q21_ hb)
        have n1_ := Aside0.mk (Kd.R_below q20_ hb)
        have n2_ := Aside0.mk (Kd.R_below q19_ hb)
        have n3_ := Aside0.mk (Kd.R_below q14_ hb)
        have n4_ := Aside0.mk (Kd.R_below q18_ hb)
        have n5_ := Aside0.mk (Kd.R_below q25_ hb)
        have n6_ := Aside0.mk (Kd.R_below q46_ hb)
        have n7_ := Aside0.mk (blk_below (g := gb246) (o := .cells #[.slice A0_0 l0_0.length c0_0, .slice A0_1 l0_1.length c0_1, .slice A0_2 l0_2.length c0_2] 26 (0, 0)) q8_ hb)
        have n8_ := Aside0.mk (blk_below (g := gb258) (o := .cells #[.slice Ao80 t249.length co80, .slice Ao83 t252.length co83, .slice Ao84 t255.length co84] 26 (0, 0)) q22_ hb)
        have n9_ := Aside0.mk (below_step q4_ hb)
        clear HO251
        clear HO254
        clear HO257
        clear HO261
        clear HO265
        clear HO269
        clear HO273
        clear BK246
        clear BK258
        clear HB
        have HO251 := n0_
        have HO254 := n1_
        have HO257 := n2_
        have HO261 := n3_
        have HO265 := n4_
        have HO269 := n5_
        have HO273 := n6_
        have BK246 := n7_
        have BK258 := n8_
        have HB := n9_
        clear n0_ n1_ n2_ n3_ n4_ n5_ n6_ n7_ n8_ n9_
        (try clear hb)
        (try clear hb2)
        (try clear hk)
        (try clear hi)
        refine hK.out _ _ ⟨(blk_cell BK258.out 0).trans rfl, (blk_cell BK258.out 1).trans rfl, (blk_cell BK258.out 2).trans rfl, (blk_cell BK246.out 0).trans rfl, (blk_cell BK246.out 1).trans rfl, (blk_cell BK246.out 2).trans rfl⟩ (fun hHeld => ?_)
        clear hK K
        refine mz_ (some 54) (h := ?_)
        refine nz_ (i := 3) (N := some 56) (h := fun K hK => ?_)
        refine goes_ Try.func17 q37_ rfl #[.agg #[.slice A0_0 l0_0.length c0_0, .slice A0_1 l0_1.length c0_1, .slice A0_2 l0_2.length c0_2]] (by rfl) rfl rfl q2_ ?_
        with_reducible refine (retargetref04_Check.calls kj3 _ _ l0_0 _ _ l0_1 _ _ l0_2 t276 _ ?side1 ?side2 ?side3 ?side4 ?side5 ?side6 A23.out).mono ?_
        (case side1 => repeat (first | exact (Kd.C_below HR0_0.out HB.out) | (with_reducible refine Kd.C_alloc ?_ _) | (with_reducible refine Kd.C_drewN ?_ _) | (with_reducible refine Kd.C_drew ?_)))
        (case side2 => exact HC0_0.out)
        (case side3 => repeat (first | exact (Kd.C_below HR0_1.out HB.out) | (with_reducible refine Kd.C_alloc ?_ _) | (with_reducible refine Kd.C_drewN ?_ _) | (with_reducible refine Kd.C_drew ?_)))
        (case side4 => exact HC0_1.out)
        (case side5 => repeat (first | exact (Kd.C_below HR0_2.out HB.out) | (with_reducible refine Kd.C_alloc ?_ _) | (with_reducible refine Kd.C_drewN ?_ _) | (with_reducible refine Kd.C_drew ?_)))
        (case side6 => exact HC0_2.out)
        rintro e w94 ⟨rfl, hb⟩
        refine ⟨_, rfl, ?_⟩
        have n0_ := Aside0.mk (Kd.R_below q21_ hb)
        have n1_ := Aside0.mk (Kd.R_below q20_ hb)
        have n2_ := Aside0.mk (Kd.R_below q19_ hb)
        have n3_ := Aside0.mk (Kd.R_below q14_ hb)
        have n4_ := Aside0.mk (Kd.R_below q18_ hb)
        have n5_ := Aside0.mk (Kd.R_below q25_ hb)
        have n6_ := Aside0.mk (Kd.R_below q46_ hb)
        have n7_ := Aside0.mk (blk_below (g := gb246) (o := .cells #[.slice A0_0 l0_0.length c0_0, .slice A0_1 l0_1.length c0_1, .slice A0_2 l0_2.length c0_2] 26 (0, 0)) q8_ hb)
        have n8_ := Aside0.mk (blk_below (g := gb258) (o := .cells #[.slice Ao80 t249.length co80, .slice Ao83 t252.length co83, .slice Ao84 t255.length co84] 26 (0, 0)) q22_ hb)
        have n9_ := Aside0.mk (below_step q4_ hb)
        clear HO251
        clear HO254
        clear HO257
        clear HO261
        clear HO265
        clear HO269
        clear HO273
        clear BK246
        clear BK258
        clear HB
        have HO251 := n0_
        have HO254 := n1_
        have HO257 := n2_
        have HO261 := n3_
        have HO265 := n4_
        have HO269 := n5_
        have HO273 := n6_
        have BK246 := n7_
        have BK258 := n8_
        have HB := n9_
        clear n0_ n1_ n2_ n3_ n4_ n5_ n6_ n7_ n8_ n9_
        (try clear hb)
        (try clear hb2)
        (try clear hk)
        (try clear hi)
        obtain ⟨Ao95, co95, eo95⟩ := Kd.R_slice HO261.out
        (first | subst eo95 | (injection eo95 with f1_ f2_ f3_; have f4_ := f1_.symm; have f5_ := f3_.symm; clear f1_ f2_ f3_; subst f4_; subst f5_))
        obtain ⟨Ao96, co96, eo96⟩ := Kd.R_slice HO265.out
        (first | subst eo96 | (injection eo96 with f1_ f2_ f3_; have f4_ := f1_.symm; have f5_ := f3_.symm; clear f1_ f2_ f3_; subst f4_; subst f5_))
        refine hK.out _ _ ⟨(blk_cell BK258.out 0).trans rfl, (blk_cell BK258.out 1).trans rfl, (blk_cell BK258.out 2).trans rfl, (blk_cell BK246.out 0).trans rfl, (blk_cell BK246.out 1).trans rfl, (blk_cell BK246.out 2).trans rfl⟩ (fun hHeld => ?_)
        clear hK K
        refine mz_ (some 56) (h := ?_)
        refine pz_ (i := 4) (N := some 57) (h := ?_)
        refine pz_ (i := 5) (N := some 58) (h := ?_)
        refine pz_ (i := 6) (N := some 59) (h := ?_)
        refine pz_ (i := 7) (N := some 60) (h := ?_)
        refine nz_ (i := 8) (N := some 61) (h := fun K hK => ?_)
        refine goes_ Try.func18 q37_ rfl #[.slice Ao95 t259.length co95, .slice Ao96 t263.length co96] (by rfl) rfl rfl q2_ ?_
        with_reducible refine (retargetref04_SameBools.calls kj3 _ _ t259 _ _ t263 true _ ?side1 ?side2 ?side3 ?side4 A25.out).mono ?_
        (case side1 => repeat (first | exact (Kd.R_reads' HO261.out).2.2 | (with_reducible refine Kd.C_alloc ?_ _) | (with_reducible refine Kd.C_drewN ?_ _) | (with_reducible refine Kd.C_drew ?_)))
        (case side2 => exact (Kd.R_reads' HO261.out).2.1)
        (case side3 => repeat (first | exact (Kd.R_reads' HO265.out).2.2 | (with_reducible refine Kd.C_alloc ?_ _) | (with_reducible refine Kd.C_drewN ?_ _) | (with_reducible refine Kd.C_drew ?_)))
        (case side4 => exact (Kd.R_reads' HO265.out).2.1)
        rintro e w' ⟨rfl, ⟨nd, rfl⟩⟩
        refine ⟨_, rfl, ?_⟩
        obtain ⟨Ao97, co97, eo97⟩ := Kd.R_slice HO269.out
        (first | subst eo97 | (injection eo97 with f1_ f2_ f3_; have f4_ := f1_.symm; have f5_ := f3_.symm; clear f1_ f2_ f3_; subst f4_; subst f5_))
        obtain ⟨Ao98, co98, eo98⟩ := Kd.R_slice HO273.out
        (first | subst eo98 | (injection eo98 with f1_ f2_ f3_; have f4_ := f1_.symm; have f5_ := f3_.symm; clear f1_ f2_ f3_; subst f4_; subst f5_))
        refine hK.out _ _ ⟨(blk_cell BK258.out 0).trans rfl, (blk_cell BK258.out 1).trans rfl, (blk_cell BK258.out 2).trans rfl, (blk_cell BK246.out 0).trans rfl, (blk_cell BK246.out 1).trans rfl, (blk_cell BK246.out 2).trans rfl⟩ (fun hHeld => ?_)
        clear hK K
        refine mz_ (some 61) (h := ?_)
        refine pz_ (i := 9) (N := some 62) (h := ?_)
        refine pz_ (i := 10) (N := some 63) (h := ?_)
        refine pz_ (i := 11) (N := some 64) (h := ?_)
        refine pz_ (i := 12) (N := some 65) (h := ?_)
        refine pz_ (i := 13) (N := some 66) (h := ?_)
        refine pz_ (i := 14) (N := some 67) (h := ?_)
        refine pz_ (i := 15) (N := some 68) (h := ?_)
        refine pz_ (i := 16) (N := some 69) (h := ?_)
        refine pz_ (i := 17) (N := some 70) (h := ?_)
        refine nz_ (i := 18) (N := some 71) (h := fun K hK => ?_)
        refine goes_ Try.func18 q37_ rfl #[.slice Ao97 t267.length co97, .slice Ao98 t271.length co98] (by rfl) rfl rfl q2_ ?_
        with_reducible refine (retargetref04_SameBools.calls kj3 _ _ t267 _ _ t271 false _ ?side1 ?side2 ?side3 ?side4 A28.out).mono ?_
        (case side1 => repeat (first | exact (Kd.R_reads' HO269.out).2.2 | (with_reducible refine Kd.C_alloc ?_ _) | (with_reducible refine Kd.C_drewN ?_ _) | (with_reducible refine Kd.C_drew ?_)))
        (case side2 => exact (Kd.R_reads' HO269.out).2.1)
        (case side3 => repeat (first | exact (Kd.R_reads' HO273.out).2.2 | (with_reducible refine Kd.C_alloc ?_ _) | (with_reducible refine Kd.C_drewN ?_ _) | (with_reducible refine Kd.C_drew ?_)))
        (case side4 => exact (Kd.R_reads' HO273.out).2.1)
        rintro e w' ⟨rfl, ⟨nd, rfl⟩⟩
        refine ⟨_, rfl, ?_⟩
        refine hK.out _ _ ⟨(blk_cell BK258.out 0).trans rfl, (blk_cell BK258.out 1).trans rfl, (blk_cell BK258.out 2).trans rfl, (blk_cell BK246.out 0).trans rfl, (blk_cell BK246.out 1).trans rfl, (blk_cell BK246.out 2).trans rfl⟩ (fun hHeld => ?_)
        clear hK K
        refine mz_ (some 71) (h := ?_)
        refine pz_ (i := 19) (N := some 72) (h := ?_)
        refine pz_ (i := 20) (N := some 73) (h := ?_)
        refine oz_ (i := 21) (N := some 74) (h := ?_)
        refine oz_ (i := 22) (N := some 75) (h := ?_)
        refine oz_ (i := 23) (N := some 76) (h := ?_)
        refine pz_ (i := 24) (N := some 77) (h := ?_)
        refine pz_ (i := 25) (N := some 78) (h := ?_)
        refine oz_ (i := 26) (N := some 79) (h := ?_)
        refine oz_ (i := 27) (N := some 80) (h := ?_)
        refine oz_ (i := 28) (N := some 81) (h := ?_)
        refine pz_ (i := 29) (N := some 82) (h := ?_)
        refine pz_ (i := 30) (N := some 6) (h := ?_)
        refine done_ (done_of HT_.out q37_) ?_
        try go_wp2
        go_ret
        exact ⟨by first | rfl | (simp [errW_none, errW_some] <;> rfl) | (simp [*, errW_none, errW_some] <;> rfl), by repeat (first | (with_reducible first | exact HB.out | apply below_alloc | apply pw_below_drewN | apply below_drew1 | refine below_set ?_ GE246.out | refine below_set ?_ GE258.out) | exact HB.out)⟩
      ·rw [if_neg c27] at H
       have c27b0 : (t262 == t266) = false := beq_eq_false_iff_ne.mpr c27
       have c27b1 : (t262 != t266) = true := bne_iff_ne.mpr c27
       obtain rfl := Option.some.inj H
       have hcz99_0 : wc.cell? ⟨gb246, 0, none⟩ = some (.slice A0_0 l0_0.length c0_0) := (blk_cell BK246.out 0).trans rfl
       have hcz99_1 : wc.cell? ⟨gb246, 1, none⟩ = some (.slice A0_1 l0_1.length c0_1) := (blk_cell BK246.out 1).trans rfl
       have hcz99_2 : wc.cell? ⟨gb246, 2, none⟩ = some (.slice A0_2 l0_2.length c0_2) := (blk_cell BK246.out 2).trans rfl
       have hfz99_0 := blk_frozen BK246.out 0
       have hfz99_1 := blk_frozen BK246.out 1
       have hfz99_2 := blk_frozen BK246.out 2
       try go_wp2_with (first | ((with_reducible refine gate_callee (f := 6) rfl ?_); refine goesL_ (some 28) rfl rfl Try.func6 q37_ rfl #[.agg #[.slice A0_0 l0_0.length c0_0, .slice A0_1 l0_1.length c0_1, .slice A0_2 l0_2.length c0_2]] rfl q2_ ?_; (with_reducible refine (retargetref04_Twin.calls _ _ l0_0 _ _ l0_1 _ _ l0_2 t249 t252 t255 _ ?side1 ?side2 ?side3 ?side4 ?side5 ?side6 A17.out).mono ?_); (case side1 => repeat (first | exact (Kd.C_below HR0_0.out HB.out) | (with_reducible refine Kd.C_alloc ?_ _) | (with_reducible refine Kd.C_drewN ?_ _) | (with_reducible refine Kd.C_drew ?_))); (case side2 => exact HC0_0.out); (case side3 => repeat (first | exact (Kd.C_below HR0_1.out HB.out) | (with_reducible refine Kd.C_alloc ?_ _) | (with_reducible refine Kd.C_drewN ?_ _) | (with_reducible refine Kd.C_drew ?_))); (case side4 => exact HC0_1.out); (case side5 => repeat (first | exact (Kd.C_below HR0_2.out HB.out) | (with_reducible refine Kd.C_alloc ?_ _) | (with_reducible refine Kd.C_drewN ?_ _) | (with_reducible refine Kd.C_drew ?_))); (case side6 => exact HC0_2.out); rintro e w100 ⟨v250, v253, v256, rfl, ho0, ho1, ho2, hb⟩; refine ⟨_, rfl, ?_⟩; have n0_ := Aside0.mk (Kd.R_lower ho0 (below_size q7_)); have n1_ := Aside0.mk (Kd.R_lower ho1 (below_size q7_)); have n2_ := Aside0.mk (Kd.R_lower ho2 (below_size q7_)); have n3_ := Aside0.mk (blk_below (g := gb246) (o := .cells #[.slice A0_0 l0_0.length c0_0, .slice A0_1 l0_1.length c0_1, .slice A0_2 l0_2.length c0_2] 26 (0, 0)) q8_ hb); have n4_ := Aside0.mk (below_step q7_ hb); clear BK246; clear HB; have HO251 := n0_; have HO254 := n1_; have HO257 := n2_; have BK246 := n3_; have HB := n4_; clear n0_ n1_ n2_ n3_ n4_; (try clear hb); (try clear hb2); (try clear hk); (try clear hi); (try clear ho0); (try clear ho1); (try clear ho2)) | ((with_reducible refine gate_dst (N := 7) rfl ?_); (try (refine gate_guard (by rfl) ?_; dsimp only)); refine box_event ?hg (N := 7) ?hd (cs := #[.slice none 0 0, .slice none 0 0, .slice none 0 0]) (t := 26) ?hr ?_; (case hd => rfl); (case hg => rfl); (case hr => first | (go_simp; done) | (go_simp; rfl)); intro gb258 hg w101 hbox hb; have n0_ := Aside0.mk (Kd.R_below q21_ hb); have n1_ := Aside0.mk (Kd.R_below q20_ hb); have n2_ := Aside0.mk (Kd.R_below q19_ hb); have n3_ := Aside0.mk (blk_below (g := gb246) (o := .cells #[.slice A0_0 l0_0.length c0_0, .slice A0_1 l0_1.length c0_1, .slice A0_2 l0_2.length c0_2] 26 (0, 0)) q8_ hb); have n4_ := Aside0.mk (below_step q7_ hb); have n5_ := Aside0.mk (hbox); have n6_ := Aside0.mk ((by rw [hg]; exact (below_size q7_) : w.heap.size ≤ gb258)); have n7_ := Aside0.mk ((by rw [hg]; exact (below_size q7_) : w.heap.size ≤ gb258)); have n8_ := Aside0.mk ((by rw [hg]; exact Nat.ne_of_lt (blk_lt (g := gb246) (o := .cells #[.slice A0_0 l0_0.length c0_0, .slice A0_1 l0_1.length c0_1, .slice A0_2 l0_2.length c0_2] 26 (0, 0)) q8_) : gb246 ≠ gb258)); have n9_ := Aside0.mk ((by rw [hg]; exact Nat.ne_of_gt (blk_lt (g := gb246) (o := .cells #[.slice A0_0 l0_0.length c0_0, .slice A0_1 l0_1.length c0_1, .slice A0_2 l0_2.length c0_2] 26 (0, 0)) q8_) : gb258 ≠ gb246)); clear HO251; clear HO254; clear HO257; clear BK246; clear HB; have HO251 := n0_; have HO254 := n1_; have HO257 := n2_; have BK246 := n3_; have HB := n4_; have BK258 := n5_; have GW258 := n6_; have GE258 := n7_; have NB246_258 := n8_; have NB258_246 := n9_; clear n0_ n1_ n2_ n3_ n4_ n5_ n6_ n7_ n8_ n9_; clear hb hbox hg; obtain ⟨Ao102, co102, eo102⟩ := Kd.R_slice HO251.out; subst eo102; have hnb103 := NB258_246.out; have hnc103 := NB246_258.out; have hcz104_0 : w101.cell? ⟨gb258, 0, none⟩ = some (.slice none 0 0) := (blk_cell BK258.out 0).trans rfl; have hcz104_1 : w101.cell? ⟨gb258, 1, none⟩ = some (.slice none 0 0) := (blk_cell BK258.out 1).trans rfl; have hcz104_2 : w101.cell? ⟨gb258, 2, none⟩ = some (.slice none 0 0) := (blk_cell BK258.out 2).trans rfl; have hfz104_0 := blk_frozen BK258.out 0; have hfz104_1 := blk_frozen BK258.out 1; have hfz104_2 := blk_frozen BK258.out 2; obtain ⟨Ao105, co105, eo105⟩ := Kd.R_slice HO254.out; subst eo105; obtain ⟨Ao106, co106, eo106⟩ := Kd.R_slice HO257.out; subst eo106) | ((with_reducible refine gate_callee (f := 12) rfl ?_); refine goesL_ (some 32) rfl rfl Try.func12 q37_ rfl #[.agg #[.slice Ao102 t249.length co102, .slice Ao105 t252.length co105, .slice Ao106 t255.length co106], .slice A1 l1.length c1] rfl q2_ ?_; (with_reducible refine (blast_Run.calls kj3 _ _ t249 _ _ t252 _ _ t255 _ _ l1 t259 t262 _ ?side1 ?side2 ?side3 ?side4 ?side5 ?side6 ?side7 ?side8 A18.out).mono ?_); (case side1 => refine (Kd.R_reads' (e := 52) (base := w.heap.size) (ok := fun k_ => True) (n := t249.length) (c := co102) ?_).2.2; exact (by (with_reducible repeat (first | apply Kd.R_alloc | apply Kd.R_drewN | apply Kd.R_drew)); exact (Kd.R_mono (Kd.R_far (p := ⟨gb258, 2, none⟩) (Kd.R_far (p := ⟨gb258, 1, none⟩) (Kd.R_far (p := ⟨gb258, 0, none⟩) (Kd.R_types HO251.out BK258.out q55_) (fun _ hk => hk.2) (.slice Ao102 t249.length co102)) (fun _ hk => hk.2) (.slice Ao105 t252.length co105)) (fun _ hk => hk.2) (.slice Ao106 t255.length co106)) (fun _ h_ => h_.1)))); (case side2 => exact (Kd.R_reads' HO251.out).2.1); (case side3 => refine (Kd.R_reads' (e := 54) (base := w.heap.size) (ok := fun k_ => True) (n := t252.length) (c := co105) ?_).2.2; exact (by (with_reducible repeat (first | apply Kd.R_alloc | apply Kd.R_drewN | apply Kd.R_drew)); exact (Kd.R_mono (Kd.R_far (p := ⟨gb258, 2, none⟩) (Kd.R_far (p := ⟨gb258, 1, none⟩) (Kd.R_far (p := ⟨gb258, 0, none⟩) (Kd.R_types HO254.out BK258.out q55_) (fun _ hk => hk.2) (.slice Ao102 t249.length co102)) (fun _ hk => hk.2) (.slice Ao105 t252.length co105)) (fun _ hk => hk.2) (.slice Ao106 t255.length co106)) (fun _ h_ => h_.1)))); (case side4 => exact (Kd.R_reads' HO254.out).2.1); (case side5 => refine (Kd.R_reads' (e := 3) (base := w.heap.size) (ok := fun k_ => True) (n := t255.length) (c := co106) ?_).2.2; exact (by (with_reducible repeat (first | apply Kd.R_alloc | apply Kd.R_drewN | apply Kd.R_drew)); exact (Kd.R_mono (Kd.R_far (p := ⟨gb258, 2, none⟩) (Kd.R_far (p := ⟨gb258, 1, none⟩) (Kd.R_far (p := ⟨gb258, 0, none⟩) (Kd.R_types HO257.out BK258.out q55_) (fun _ hk => hk.2) (.slice Ao102 t249.length co102)) (fun _ hk => hk.2) (.slice Ao105 t252.length co105)) (fun _ hk => hk.2) (.slice Ao106 t255.length co106)) (fun _ h_ => h_.1)))); (case side6 => exact (Kd.R_reads' HO257.out).2.1); (case side7 => exact Kd.C_below HR1.out q4_); (case side8 => exact HC1.out); rintro e w107 ⟨v260, rfl, ho0, hb⟩; refine ⟨_, rfl, ?_⟩; have n0_ := Aside0.mk (Kd.R_below (by (with_reducible repeat (first | apply Kd.R_alloc | apply Kd.R_drewN | apply Kd.R_drew)); exact (Kd.R_mono (Kd.R_far (p := ⟨gb258, 2, none⟩) (Kd.R_far (p := ⟨gb258, 1, none⟩) (Kd.R_far (p := ⟨gb258, 0, none⟩) (Kd.R_types HO251.out BK258.out q55_) (fun _ hk => hk.2) (.slice Ao102 t249.length co102)) (fun _ hk => hk.2) (.slice Ao105 t252.length co105)) (fun _ hk => hk.2) (.slice Ao106 t255.length co106)) (fun _ h_ => h_.1))) hb); have n1_ := Aside0.mk (Kd.R_below (by (with_reducible repeat (first | apply Kd.R_alloc | apply Kd.R_drewN | apply Kd.R_drew)); exact (Kd.R_mono (Kd.R_far (p := ⟨gb258, 2, none⟩) (Kd.R_far (p := ⟨gb258, 1, none⟩) (Kd.R_far (p := ⟨gb258, 0, none⟩) (Kd.R_types HO254.out BK258.out q55_) (fun _ hk => hk.2) (.slice Ao102 t249.length co102)) (fun _ hk => hk.2) (.slice Ao105 t252.length co105)) (fun _ hk => hk.2) (.slice Ao106 t255.length co106)) (fun _ h_ => h_.1))) hb); have n2_ := Aside0.mk (Kd.R_below (by (with_reducible repeat (first | apply Kd.R_alloc | apply Kd.R_drewN | apply Kd.R_drew)); exact (Kd.R_mono (Kd.R_far (p := ⟨gb258, 2, none⟩) (Kd.R_far (p := ⟨gb258, 1, none⟩) (Kd.R_far (p := ⟨gb258, 0, none⟩) (Kd.R_types HO257.out BK258.out q55_) (fun _ hk => hk.2) (.slice Ao102 t249.length co102)) (fun _ hk => hk.2) (.slice Ao105 t252.length co105)) (fun _ hk => hk.2) (.slice Ao106 t255.length co106)) (fun _ h_ => h_.1))) hb); have n3_ := Aside0.mk (Kd.R_lower ho0 (below_size q4_)); have n4_ := Aside0.mk (blk_below (g := gb246) (o := .cells #[.slice A0_0 l0_0.length c0_0, .slice A0_1 l0_1.length c0_1, .slice A0_2 l0_2.length c0_2] 26 (0, 0)) q23_ hb); have n5_ := Aside0.mk (blk_below (g := gb258) (o := .cells #[.slice Ao102 t249.length co102, .slice Ao105 t252.length co105, .slice Ao106 t255.length co106] 26 (0, 0)) (by (with_reducible repeat (first | refine blk_drewN ?_ _ | refine blk_drew ?_ | refine blk_alloc ?_ _)); refine blk_put (cs := #[.slice Ao102 t249.length co102, .slice Ao105 t252.length co105, .slice none 0 0]) ?_ 2 _ rfl; (with_reducible repeat (first | refine blk_drewN ?_ _ | refine blk_drew ?_ | refine blk_alloc ?_ _)); refine blk_put (cs := #[.slice Ao102 t249.length co102, .slice none 0 0, .slice none 0 0]) ?_ 1 _ rfl; (with_reducible repeat (first | refine blk_drewN ?_ _ | refine blk_drew ?_ | refine blk_alloc ?_ _)); refine blk_put (cs := #[.slice none 0 0, .slice none 0 0, .slice none 0 0]) ?_ 0 _ rfl; (with_reducible repeat (first | refine blk_drewN ?_ _ | refine blk_drew ?_ | refine blk_alloc ?_ _)); exact BK258.out) hb); have n6_ := Aside0.mk (below_step q4_ hb); clear HO251; clear HO254; clear HO257; clear BK246; clear BK258; clear HB; have HO251 := n0_; have HO254 := n1_; have HO257 := n2_; have HO261 := n3_; have BK246 := n4_; have BK258 := n5_; have HB := n6_; clear n0_ n1_ n2_ n3_ n4_ n5_ n6_; (try clear hb); (try clear hb2); (try clear hk); (try clear hi); (try clear ho0); have hcz108_0 : w107.cell? ⟨gb246, 0, none⟩ = some (.slice A0_0 l0_0.length c0_0) := (blk_cell BK246.out 0).trans rfl; have hcz108_1 : w107.cell? ⟨gb246, 1, none⟩ = some (.slice A0_1 l0_1.length c0_1) := (blk_cell BK246.out 1).trans rfl; have hcz108_2 : w107.cell? ⟨gb246, 2, none⟩ = some (.slice A0_2 l0_2.length c0_2) := (blk_cell BK246.out 2).trans rfl; have hfz108_0 := blk_frozen BK246.out 0; have hfz108_1 := blk_frozen BK246.out 1; have hfz108_2 := blk_frozen BK246.out 2) | ((with_reducible refine gate_callee (f := 13) rfl ?_); refine goesL_ (some 38) rfl rfl Try.func13 q37_ rfl #[.agg #[.slice A0_0 l0_0.length c0_0, .slice A0_1 l0_1.length c0_1, .slice A0_2 l0_2.length c0_2], .slice A1 l1.length c1] rfl q2_ ?_; (with_reducible refine (retargetref04_Run.calls kj3 _ _ l0_0 _ _ l0_1 _ _ l0_2 _ _ l1 t263 t266 _ ?side1 ?side2 ?side3 ?side4 ?side5 ?side6 ?side7 ?side8 A19.out).mono ?_); (case side1 => repeat (first | exact (Kd.C_below HR0_0.out HB.out) | (with_reducible refine Kd.C_alloc ?_ _) | (with_reducible refine Kd.C_drewN ?_ _) | (with_reducible refine Kd.C_drew ?_))); (case side2 => exact HC0_0.out); (case side3 => repeat (first | exact (Kd.C_below HR0_1.out HB.out) | (with_reducible refine Kd.C_alloc ?_ _) | (with_reducible refine Kd.C_drewN ?_ _) | (with_reducible refine Kd.C_drew ?_))); (case side4 => exact HC0_1.out); (case side5 => repeat (first | exact (Kd.C_below HR0_2.out HB.out) | (with_reducible refine Kd.C_alloc ?_ _) | (with_reducible refine Kd.C_drewN ?_ _) | (with_reducible refine Kd.C_drew ?_))); (case side6 => exact HC0_2.out); (case side7 => repeat (first | exact (Kd.C_below HR1.out HB.out) | (with_reducible refine Kd.C_alloc ?_ _) | (with_reducible refine Kd.C_drewN ?_ _) | (with_reducible refine Kd.C_drew ?_))); (case side8 => exact HC1.out); rintro e w109 ⟨v264, rfl, ho0, hb⟩; refine ⟨_, rfl, ?_⟩; have n0_ := Aside0.mk (Kd.R_below q21_ hb); have n1_ := Aside0.mk (Kd.R_below q20_ hb); have n2_ := Aside0.mk (Kd.R_below q19_ hb); have n3_ := Aside0.mk (Kd.R_elder' q14_ (Kd.R_base ho0) hb); have n4_ := Aside0.mk (Kd.R_lower (Kd.R_new' ho0 (Kd.R_lt q14_)) (below_size q4_)); have n5_ := Aside0.mk (blk_below (g := gb246) (o := .cells #[.slice A0_0 l0_0.length c0_0, .slice A0_1 l0_1.length c0_1, .slice A0_2 l0_2.length c0_2] 26 (0, 0)) q8_ hb); have n6_ := Aside0.mk (blk_below (g := gb258) (o := .cells #[.slice Ao102 t249.length co102, .slice Ao105 t252.length co105, .slice Ao106 t255.length co106] 26 (0, 0)) q22_ hb); have n7_ := Aside0.mk (below_step q4_ hb); clear HO251; clear HO254; clear HO257; clear HO261; clear BK246; clear BK258; clear HB; have HO251 := n0_; have HO254 := n1_; have HO257 := n2_; have HO261 := n3_; have HO265 := n4_; have BK246 := n5_; have BK258 := n6_; have HB := n7_; clear n0_ n1_ n2_ n3_ n4_ n5_ n6_ n7_; (try clear hb); (try clear hb2); (try clear hk); (try clear hi); (try clear ho0); have hcz110_0 : w109.cell? ⟨gb258, 0, none⟩ = some (.slice Ao102 t249.length co102) := (blk_cell BK258.out 0).trans rfl; have hcz110_1 : w109.cell? ⟨gb258, 1, none⟩ = some (.slice Ao105 t252.length co105) := (blk_cell BK258.out 1).trans rfl; have hcz110_2 : w109.cell? ⟨gb258, 2, none⟩ = some (.slice Ao106 t255.length co106) := (blk_cell BK258.out 2).trans rfl; have hfz110_0 := blk_frozen BK258.out 0; have hfz110_1 := blk_frozen BK258.out 1; have hfz110_2 := blk_frozen BK258.out 2) | ((with_reducible refine gate_callee (f := 14) rfl ?_); refine goesL_ (some 44) rfl rfl Try.func14 q37_ rfl #[.agg #[.slice Ao102 t249.length co102, .slice Ao105 t252.length co105, .slice Ao106 t255.length co106], .slice A2 l2.length c2] rfl q2_ ?_; (with_reducible refine (blast_Inputs.calls kj3 _ _ t249 _ _ t252 _ _ t255 _ _ l2 t267 t270 _ ?side1 ?side2 ?side3 ?side4 ?side5 ?side6 ?side7 ?side8 A20.out).mono ?_); (case side1 => repeat (first | exact (Kd.R_reads' HO251.out).2.2 | (with_reducible refine Kd.C_alloc ?_ _) | (with_reducible refine Kd.C_drewN ?_ _) | (with_reducible refine Kd.C_drew ?_))); (case side2 => exact (Kd.R_reads' HO251.out).2.1); (case side3 => repeat (first | exact (Kd.R_reads' HO254.out).2.2 | (with_reducible refine Kd.C_alloc ?_ _) | (with_reducible refine Kd.C_drewN ?_ _) | (with_reducible refine Kd.C_drew ?_))); (case side4 => exact (Kd.R_reads' HO254.out).2.1); (case side5 => repeat (first | exact (Kd.R_reads' HO257.out).2.2 | (with_reducible refine Kd.C_alloc ?_ _) | (with_reducible refine Kd.C_drewN ?_ _) | (with_reducible refine Kd.C_drew ?_))); (case side6 => exact (Kd.R_reads' HO257.out).2.1); (case side7 => repeat (first | exact (Kd.C_below HR2.out HB.out) | (with_reducible refine Kd.C_alloc ?_ _) | (with_reducible refine Kd.C_drewN ?_ _) | (with_reducible refine Kd.C_drew ?_))); (case side8 => exact HC2.out); rintro e w111 ⟨v268, rfl, ho0, hb⟩; refine ⟨_, rfl, ?_⟩; have n0_ := Aside0.mk (Kd.R_below q21_ hb); have n1_ := Aside0.mk (Kd.R_below q20_ hb); have n2_ := Aside0.mk (Kd.R_below q19_ hb); have n3_ := Aside0.mk (Kd.R_elder' q14_ (Kd.R_base ho0) hb); have n4_ := Aside0.mk (Kd.R_elder' q18_ (Kd.R_base ho0) hb); have n5_ := Aside0.mk (Kd.R_lower (Kd.R_new' (Kd.R_new' ho0 (Kd.R_lt q14_)) (Kd.R_lt q18_)) (below_size q4_)); have n6_ := Aside0.mk (blk_below (g := gb246) (o := .cells #[.slice A0_0 l0_0.length c0_0, .slice A0_1 l0_1.length c0_1, .slice A0_2 l0_2.length c0_2] 26 (0, 0)) q8_ hb); have n7_ := Aside0.mk (blk_below (g := gb258) (o := .cells #[.slice Ao102 t249.length co102, .slice Ao105 t252.length co105, .slice Ao106 t255.length co106] 26 (0, 0)) q22_ hb); have n8_ := Aside0.mk (below_step q4_ hb); clear HO251; clear HO254; clear HO257; clear HO261; clear HO265; clear BK246; clear BK258; clear HB; have HO251 := n0_; have HO254 := n1_; have HO257 := n2_; have HO261 := n3_; have HO265 := n4_; have HO269 := n5_; have BK246 := n6_; have BK258 := n7_; have HB := n8_; clear n0_ n1_ n2_ n3_ n4_ n5_ n6_ n7_ n8_; (try clear hb); (try clear hb2); (try clear hk); (try clear hi); (try clear ho0); have hcz112_0 : w111.cell? ⟨gb246, 0, none⟩ = some (.slice A0_0 l0_0.length c0_0) := (blk_cell BK246.out 0).trans rfl; have hcz112_1 : w111.cell? ⟨gb246, 1, none⟩ = some (.slice A0_1 l0_1.length c0_1) := (blk_cell BK246.out 1).trans rfl; have hcz112_2 : w111.cell? ⟨gb246, 2, none⟩ = some (.slice A0_2 l0_2.length c0_2) := (blk_cell BK246.out 2).trans rfl; have hfz112_0 := blk_frozen BK246.out 0; have hfz112_1 := blk_frozen BK246.out 1; have hfz112_2 := blk_frozen BK246.out 2) | ((with_reducible refine gate_callee (f := 15) rfl ?_); refine goesL_ (some 50) rfl rfl Try.func15 q37_ rfl #[.agg #[.slice A0_0 l0_0.length c0_0, .slice A0_1 l0_1.length c0_1, .slice A0_2 l0_2.length c0_2], .slice A2 l2.length c2] rfl q2_ ?_; (with_reducible refine (retargetref04_Inputs.calls kj3 _ _ l0_0 _ _ l0_1 _ _ l0_2 _ _ l2 t271 t274 _ ?side1 ?side2 ?side3 ?side4 ?side5 ?side6 ?side7 ?side8 A21.out).mono ?_); (case side1 => repeat (first | exact (Kd.C_below HR0_0.out HB.out) | (with_reducible refine Kd.C_alloc ?_ _) | (with_reducible refine Kd.C_drewN ?_ _) | (with_reducible refine Kd.C_drew ?_))); (case side2 => exact HC0_0.out); (case side3 => repeat (first | exact (Kd.C_below HR0_1.out HB.out) | (with_reducible refine Kd.C_alloc ?_ _) | (with_reducible refine Kd.C_drewN ?_ _) | (with_reducible refine Kd.C_drew ?_))); (case side4 => exact HC0_1.out); (case side5 => repeat (first | exact (Kd.C_below HR0_2.out HB.out) | (with_reducible refine Kd.C_alloc ?_ _) | (with_reducible refine Kd.C_drewN ?_ _) | (with_reducible refine Kd.C_drew ?_))); (case side6 => exact HC0_2.out); (case side7 => repeat (first | exact (Kd.C_below HR2.out HB.out) | (with_reducible refine Kd.C_alloc ?_ _) | (with_reducible refine Kd.C_drewN ?_ _) | (with_reducible refine Kd.C_drew ?_))); (case side8 => exact HC2.out); rintro e w113 ⟨v272, rfl, ho0, hb⟩; refine ⟨_, rfl, ?_⟩; have n0_ := Aside0.mk (Kd.R_below q21_ hb); have n1_ := Aside0.mk (Kd.R_below q20_ hb); have n2_ := Aside0.mk (Kd.R_below q19_ hb); have n3_ := Aside0.mk (Kd.R_elder' q14_ (Kd.R_base ho0) hb); have n4_ := Aside0.mk (Kd.R_elder' q18_ (Kd.R_base ho0) hb); have n5_ := Aside0.mk (Kd.R_elder' q25_ (Kd.R_base ho0) hb); have n6_ := Aside0.mk (Kd.R_lower (Kd.R_new' (Kd.R_new' (Kd.R_new' ho0 (Kd.R_lt q14_)) (Kd.R_lt q18_)) (Kd.R_lt q25_)) (below_size q4_)); have n7_ := Aside0.mk (blk_below (g := gb246) (o := .cells #[.slice A0_0 l0_0.length c0_0, .slice A0_1 l0_1.length c0_1, .slice A0_2 l0_2.length c0_2] 26 (0, 0)) q8_ hb); have n8_ := Aside0.mk (blk_below (g := gb258) (o := .cells #[.slice Ao102 t249.length co102, .slice Ao105 t252.length co105, .slice Ao106 t255.length co106] 26 (0, 0)) q22_ hb); have n9_ := Aside0.mk (below_step q4_ hb); clear HO251; clear HO254; clear HO257; clear HO261; clear HO265; clear HO269; clear BK246; clear BK258; clear HB; have HO251 := n0_; have HO254 := n1_; have HO257 := n2_; have HO261 := n3_; have HO265 := n4_; have HO269 := n5_; have HO273 := n6_; have BK246 := n7_; have BK258 := n8_; have HB := n9_; clear n0_ n1_ n2_ n3_ n4_ n5_ n6_ n7_ n8_ n9_; (try clear hb); (try clear hb2); (try clear hk); (try clear hi); (try clear ho0)))
       have n0_ := Aside0.mk (Kd.R_drew HO251.out)
       have n1_ := Aside0.mk (Kd.R_drew HO254.out)
       have n2_ := Aside0.mk (Kd.R_drew HO257.out)
       have n3_ := Aside0.mk (Kd.R_drew HO261.out)
       have n4_ := Aside0.mk (Kd.R_drew HO265.out)
       have n5_ := Aside0.mk (Kd.R_drew HO269.out)
       have n6_ := Aside0.mk (Kd.R_drew HO273.out)
       have n7_ := Aside0.mk (blk_drew BK246.out)
       have n8_ := Aside0.mk (blk_drew BK258.out)
       have n9_ := Aside0.mk (below_drew1 HB.out)
       clear HO251
       clear HO254
       clear HO257
       clear HO261
       clear HO265
       clear HO269
       clear HO273
       clear BK246
       clear BK258
       clear HB
       have HO251 := n0_
       have HO254 := n1_
       have HO257 := n2_
       have HO261 := n3_
       have HO265 := n4_
       have HO269 := n5_
       have HO273 := n6_
       have BK246 := n7_
       have BK258 := n8_
       have HB := n9_
       clear n0_ n1_ n2_ n3_ n4_ n5_ n6_ n7_ n8_ n9_
       refine start_ (n := 31) (S := fun w' => w'.cell? ⟨gb258, 0, none⟩ = some (.slice Ao102 t249.length co102) ∧ w'.cell? ⟨gb258, 1, none⟩ = some (.slice Ao105 t252.length co105) ∧ w'.cell? ⟨gb258, 2, none⟩ = some (.slice Ao106 t255.length co106) ∧ w'.cell? ⟨gb246, 0, none⟩ = some (.slice A0_0 l0_0.length c0_0) ∧ w'.cell? ⟨gb246, 1, none⟩ = some (.slice A0_1 l0_1.length c0_1) ∧ w'.cell? ⟨gb246, 2, none⟩ = some (.slice A0_2 l0_2.length c0_2)) (ds := []) #[false, false, false, false, false, false, false, false, false, false, false, false, false, false, false, false, false, false, false, false, false, false, false, false, false, false, false, false, false, false, false] q37_ rfl rfl ⟨(blk_cell BK258.out 0).trans rfl, (blk_cell BK258.out 1).trans rfl, (blk_cell BK258.out 2).trans rfl, (blk_cell BK246.out 0).trans rfl, (blk_cell BK246.out 1).trans rfl, (blk_cell BK246.out 2).trans rfl⟩ (fun hHeld => ?_); refine with_tabW retargetlaw04_BlastRuns.tab8 retargetlaw04_BlastRuns.bits8 (fun HT_ HW_ => ?_)
       generalize w113.drew = w114 at HO251 HO254 HO257 HO261 HO265 HO269 HO273 BK246 BK258 HB hHeld ⊢
       refine tz_ (i := 0) (N := some 53) (h := ?_)
       refine tz_ (i := 2) (N := some 55) (h := ?_)
       refine nz_ (i := 1) (N := some 54) (h := fun K hK => ?_)
       refine goes_ Try.func16 q37_ rfl #[.agg #[.slice Ao102 t249.length co102, .slice Ao105 t252.length co105, .slice Ao106 t255.length co106]] (by rfl) rfl rfl q2_ ?_
       with_reducible refine (blast_Check.calls kj3 _ _ t249 _ _ t252 _ _ t255 t275 _ ?side1 ?side2 ?side3 ?side4 ?side5 ?side6 A22.out).mono ?_
       (case side1 => repeat (first | exact (Kd.R_reads' HO251.out).2.2 | (with_reducible refine Kd.C_alloc ?_ _) | (with_reducible refine Kd.C_drewN ?_ _) | (with_reducible refine Kd.C_drew ?_)))
       (case side2 => exact (Kd.R_reads' HO251.out).2.1)
       (case side3 => repeat (first | exact (Kd.R_reads' HO254.out).2.2 | (with_reducible refine Kd.C_alloc ?_ _) | (with_reducible refine Kd.C_drewN ?_ _) | (with_reducible refine Kd.C_drew ?_)))
       (case side4 => exact (Kd.R_reads' HO254.out).2.1)
       (case side5 => repeat (first | exact (Kd.R_reads' HO257.out).2.2 | (with_reducible refine Kd.C_alloc ?_ _) | (with_reducible refine Kd.C_drewN ?_ _) | (with_reducible refine Kd.C_drew ?_)))
       (case side6 => exact (Kd.R_reads' HO257.out).2.1)
       rintro e w115 ⟨rfl, hb⟩
       refine ⟨_, rfl, ?_⟩
       have n0_ := Aside0.mk (Kd.R_below q21_ hb)
       have n1_ := Aside0.mk (Kd.R_below q20_ hb)
       have n2_ := Aside0.mk (Kd.R_below q19_ hb)
       have n3_ := Aside0.mk (Kd.R_below q14_ hb)
       have n4_ := Aside0.mk (Kd.R_below q18_ hb)
       have n5_ := Aside0.mk (Kd.R_below q25_ hb)
       have n6_ := Aside0.mk (Kd.R_below q46_ hb)
       have n7_ := Aside0.mk (blk_below (g := gb246) (o := .cells #[.slice A0_0 l0_0.length c0_0, .slice A0_1 l0_1.length c0_1, .slice A0_2 l0_2.length c0_2] 26 (0, 0)) q8_ hb)
       have n8_ := Aside0.mk (blk_below (g := gb258) (o := .cells #[.slice Ao102 t249.length co102, .slice Ao105 t252.length co105, .slice Ao106 t255.length co106] 26 (0, 0)) q22_ hb)
       have n9_ := Aside0.mk (below_step q4_ hb)
       clear HO251
       clear HO254
       clear HO257
       clear HO261
       clear HO265
       clear HO269
       clear HO273
       clear BK246
       clear BK258
       clear HB
       have HO251 := n0_
       have HO254 := n1_
       have HO257 := n2_
       have HO261 := n3_
       have HO265 := n4_
       have HO269 := n5_
       have HO273 := n6_
       have BK246 := n7_
       have BK258 := n8_
       have HB := n9_
       clear n0_ n1_ n2_ n3_ n4_ n5_ n6_ n7_ n8_ n9_
       (try clear hb)
       (try clear hb2)
       (try clear hk)
       (try clear hi)
       refine hK.out _ _ ⟨(blk_cell BK258.out 0).trans rfl, (blk_cell BK258.out 1).trans rfl, (blk_cell BK258.out 2).trans rfl, (blk_cell BK246.out 0).trans rfl, (blk_cell BK246.out 1).trans rfl, (blk_cell BK246.out 2).trans rfl⟩ (fun hHeld => ?_)
       clear hK K
       refine mz_ (some 54) (h := ?_)
       refine nz_ (i := 3) (N := some 56) (h := fun K hK => ?_)
       refine goes_ Try.func17 q37_ rfl #[.agg #[.slice A0_0 l0_0.length c0_0, .slice A0_1 l0_1.length c0_1, .slice A0_2 l0_2.length c0_2]] (by rfl) rfl rfl q2_ ?_
       with_reducible refine (retargetref04_Check.calls kj3 _ _ l0_0 _ _ l0_1 _ _ l0_2 t276 _ ?side1 ?side2 ?side3 ?side4 ?side5 ?side6 A23.out).mono ?_
       (case side1 => repeat (first | exact (Kd.C_below HR0_0.out HB.out) | (with_reducible refine Kd.C_alloc ?_ _) | (with_reducible refine Kd.C_drewN ?_ _) | (with_reducible refine Kd.C_drew ?_)))
       (case side2 => exact HC0_0.out)
       (case side3 => repeat (first | exact (Kd.C_below HR0_1.out HB.out) | (with_reducible refine Kd.C_alloc ?_ _) | (with_reducible refine Kd.C_drewN ?_ _) | (with_reducible refine Kd.C_drew ?_)))
       (case side4 => exact HC0_1.out)
       (case side5 => repeat (first | exact (Kd.C_below HR0_2.out HB.out) | (with_reducible refine Kd.C_alloc ?_ _) | (with_reducible refine Kd.C_drewN ?_ _) | (with_reducible refine Kd.C_drew ?_)))
       (case side6 => exact HC0_2.out)
       rintro e w116 ⟨rfl, hb⟩
       refine ⟨_, rfl, ?_⟩
       have n0_ := Aside0.mk (Kd.R_below q21_ hb)
       have n1_ := Aside0.mk (Kd.R_below q20_ hb)
       have n2_ := Aside0.mk (Kd.R_below q19_ hb)
       have n3_ := Aside0.mk (Kd.R_below q14_ hb)
       have n4_ := Aside0.mk (Kd.R_below q18_ hb)
       have n5_ := Aside0.mk (Kd.R_below q25_ hb)
       have n6_ := Aside0.mk (Kd.R_below q46_ hb)
       have n7_ := Aside0.mk (blk_below (g := gb246) (o := .cells #[.slice A0_0 l0_0.length c0_0, .slice A0_1 l0_1.length c0_1, .slice A0_2 l0_2.length c0_2] 26 (0, 0)) q8_ hb)
       have n8_ := Aside0.mk (blk_below (g := gb258) (o := .cells #[.slice Ao102 t249.length co102, .slice Ao105 t252.length co105, .slice Ao106 t255.length co106] 26 (0, 0)) q22_ hb)
       have n9_ := Aside0.mk (below_step q4_ hb)
       clear HO251
       clear HO254
       clear HO257
       clear HO261
       clear HO265
       clear HO269
       clear HO273
       clear BK246
       clear BK258
       clear HB
       have HO251 := n0_
       have HO254 := n1_
       have HO257 := n2_
       have HO261 := n3_
       have HO265 := n4_
       have HO269 := n5_
       have HO273 := n6_
       have BK246 := n7_
       have BK258 := n8_
       have HB := n9_
       clear n0_ n1_ n2_ n3_ n4_ n5_ n6_ n7_ n8_ n9_
       (try clear hb)
       (try clear hb2)
       (try clear hk)
       (try clear hi)
       obtain ⟨Ao117, co117, eo117⟩ := Kd.R_slice HO261.out
       (first | subst eo117 | (injection eo117 with f1_ f2_ f3_; have f4_ := f1_.symm; have f5_ := f3_.symm; clear f1_ f2_ f3_; subst f4_; subst f5_))
       obtain ⟨Ao118, co118, eo118⟩ := Kd.R_slice HO265.out
       (first | subst eo118 | (injection eo118 with f1_ f2_ f3_; have f4_ := f1_.symm; have f5_ := f3_.symm; clear f1_ f2_ f3_; subst f4_; subst f5_))
       refine hK.out _ _ ⟨(blk_cell BK258.out 0).trans rfl, (blk_cell BK258.out 1).trans rfl, (blk_cell BK258.out 2).trans rfl, (blk_cell BK246.out 0).trans rfl, (blk_cell BK246.out 1).trans rfl, (blk_cell BK246.out 2).trans rfl⟩ (fun hHeld => ?_)
       clear hK K
       refine mz_ (some 56) (h := ?_)
       refine pz_ (i := 4) (N := some 57) (h := ?_)
       refine pz_ (i := 5) (N := some 58) (h := ?_)
       refine pz_ (i := 6) (N := some 59) (h := ?_)
       refine pz_ (i := 7) (N := some 60) (h := ?_)
       refine nz_ (i := 8) (N := some 61) (h := fun K hK => ?_)
       refine goes_ Try.func18 q37_ rfl #[.slice Ao117 t259.length co117, .slice Ao118 t263.length co118] (by rfl) rfl rfl q2_ ?_
       with_reducible refine (retargetref04_SameBools.calls kj3 _ _ t259 _ _ t263 true _ ?side1 ?side2 ?side3 ?side4 A25.out).mono ?_
       (case side1 => repeat (first | exact (Kd.R_reads' HO261.out).2.2 | (with_reducible refine Kd.C_alloc ?_ _) | (with_reducible refine Kd.C_drewN ?_ _) | (with_reducible refine Kd.C_drew ?_)))
       (case side2 => exact (Kd.R_reads' HO261.out).2.1)
       (case side3 => repeat (first | exact (Kd.R_reads' HO265.out).2.2 | (with_reducible refine Kd.C_alloc ?_ _) | (with_reducible refine Kd.C_drewN ?_ _) | (with_reducible refine Kd.C_drew ?_)))
       (case side4 => exact (Kd.R_reads' HO265.out).2.1)
       rintro e w' ⟨rfl, ⟨nd, rfl⟩⟩
       refine ⟨_, rfl, ?_⟩
       refine hK.out _ _ ⟨(blk_cell BK258.out 0).trans rfl, (blk_cell BK258.out 1).trans rfl, (blk_cell BK258.out 2).trans rfl, (blk_cell BK246.out 0).trans rfl, (blk_cell BK246.out 1).trans rfl, (blk_cell BK246.out 2).trans rfl⟩ (fun hHeld => ?_)
       clear hK K
       refine mz_ (some 61) (h := ?_)
       refine pz_ (i := 9) (N := some 62) (h := ?_)
       refine pz_ (i := 10) (N := some 63) (h := ?_)
       refine pz_ (i := 11) (N := some 64) (h := ?_)
       refine pz_ (i := 12) (N := some 65) (h := ?_)
       refine pz_ (i := 13) (N := some 66) (h := ?_)
       refine pz_ (i := 14) (N := some 67) (h := ?_)
       refine pz_ (i := 15) (N := some 68) (h := ?_)
       refine oz_ (i := 16) (N := some 69) (h := ?_)
       refine oz_ (i := 17) (N := some 70) (h := ?_)
       refine oz_ (i := 18) (N := some 71) (h := ?_)
       refine pz_ (i := 19) (N := some 72) (h := ?_)
       refine pz_ (i := 20) (N := some 73) (h := ?_)
       refine oz_ (i := 21) (N := some 74) (h := ?_)
       refine oz_ (i := 22) (N := some 75) (h := ?_)
       refine oz_ (i := 23) (N := some 76) (h := ?_)
       refine pz_ (i := 24) (N := some 77) (h := ?_)
       refine pz_ (i := 25) (N := some 78) (h := ?_)
       refine oz_ (i := 26) (N := some 79) (h := ?_)
       refine oz_ (i := 27) (N := some 80) (h := ?_)
       refine oz_ (i := 28) (N := some 81) (h := ?_)
       refine pz_ (i := 29) (N := some 82) (h := ?_)
       refine pz_ (i := 30) (N := some 6) (h := ?_)
       refine done_ (done_of HT_.out q37_) ?_
       try go_wp2
       go_ret
       exact ⟨by first | rfl | (simp [errW_none, errW_some] <;> rfl) | (simp [*, errW_none, errW_some] <;> rfl), by repeat (first | (with_reducible first | exact HB.out | apply below_alloc | apply pw_below_drewN | apply below_drew1 | refine below_set ?_ GE246.out | refine below_set ?_ GE258.out) | exact HB.out)⟩
     ·replace c26 := Bool.eq_false_iff.mpr c26
      subst c26
      have H1 : (some false) = some r := by rw [if_neg (show ¬ (false = true) by decide)] at H; exact H
      clear H
      have H := H1
      clear H1
      obtain rfl := Option.some.inj H
      have hcz119_0 : wc.cell? ⟨gb246, 0, none⟩ = some (.slice A0_0 l0_0.length c0_0) := (blk_cell BK246.out 0).trans rfl
      have hcz119_1 : wc.cell? ⟨gb246, 1, none⟩ = some (.slice A0_1 l0_1.length c0_1) := (blk_cell BK246.out 1).trans rfl
      have hcz119_2 : wc.cell? ⟨gb246, 2, none⟩ = some (.slice A0_2 l0_2.length c0_2) := (blk_cell BK246.out 2).trans rfl
      have hfz119_0 := blk_frozen BK246.out 0
      have hfz119_1 := blk_frozen BK246.out 1
      have hfz119_2 := blk_frozen BK246.out 2
      try go_wp2_with (first | ((with_reducible refine gate_callee (f := 6) rfl ?_); refine goesL_ (some 28) rfl rfl Try.func6 q37_ rfl #[.agg #[.slice A0_0 l0_0.length c0_0, .slice A0_1 l0_1.length c0_1, .slice A0_2 l0_2.length c0_2]] rfl q2_ ?_; (with_reducible refine (retargetref04_Twin.calls _ _ l0_0 _ _ l0_1 _ _ l0_2 t249 t252 t255 _ ?side1 ?side2 ?side3 ?side4 ?side5 ?side6 A17.out).mono ?_); (case side1 => repeat (first | exact (Kd.C_below HR0_0.out HB.out) | (with_reducible refine Kd.C_alloc ?_ _) | (with_reducible refine Kd.C_drewN ?_ _) | (with_reducible refine Kd.C_drew ?_))); (case side2 => exact HC0_0.out); (case side3 => repeat (first | exact (Kd.C_below HR0_1.out HB.out) | (with_reducible refine Kd.C_alloc ?_ _) | (with_reducible refine Kd.C_drewN ?_ _) | (with_reducible refine Kd.C_drew ?_))); (case side4 => exact HC0_1.out); (case side5 => repeat (first | exact (Kd.C_below HR0_2.out HB.out) | (with_reducible refine Kd.C_alloc ?_ _) | (with_reducible refine Kd.C_drewN ?_ _) | (with_reducible refine Kd.C_drew ?_))); (case side6 => exact HC0_2.out); rintro e w120 ⟨v250, v253, v256, rfl, ho0, ho1, ho2, hb⟩; refine ⟨_, rfl, ?_⟩; have n0_ := Aside0.mk (Kd.R_lower ho0 (below_size q7_)); have n1_ := Aside0.mk (Kd.R_lower ho1 (below_size q7_)); have n2_ := Aside0.mk (Kd.R_lower ho2 (below_size q7_)); have n3_ := Aside0.mk (blk_below (g := gb246) (o := .cells #[.slice A0_0 l0_0.length c0_0, .slice A0_1 l0_1.length c0_1, .slice A0_2 l0_2.length c0_2] 26 (0, 0)) q8_ hb); have n4_ := Aside0.mk (below_step q7_ hb); clear BK246; clear HB; have HO251 := n0_; have HO254 := n1_; have HO257 := n2_; have BK246 := n3_; have HB := n4_; clear n0_ n1_ n2_ n3_ n4_; (try clear hb); (try clear hb2); (try clear hk); (try clear hi); (try clear ho0); (try clear ho1); (try clear ho2)) | ((with_reducible refine gate_dst (N := 7) rfl ?_); (try (refine gate_guard (by rfl) ?_; dsimp only)); refine box_event ?hg (N := 7) ?hd (cs := #[.slice none 0 0, .slice none 0 0, .slice none 0 0]) (t := 26) ?hr ?_; (case hd => rfl); (case hg => rfl); (case hr => first | (go_simp; done) | (go_simp; rfl)); intro gb258 hg w121 hbox hb; have n0_ := Aside0.mk (Kd.R_below q21_ hb); have n1_ := Aside0.mk (Kd.R_below q20_ hb); have n2_ := Aside0.mk (Kd.R_below q19_ hb); have n3_ := Aside0.mk (blk_below (g := gb246) (o := .cells #[.slice A0_0 l0_0.length c0_0, .slice A0_1 l0_1.length c0_1, .slice A0_2 l0_2.length c0_2] 26 (0, 0)) q8_ hb); have n4_ := Aside0.mk (below_step q7_ hb); have n5_ := Aside0.mk (hbox); have n6_ := Aside0.mk ((by rw [hg]; exact (below_size q7_) : w.heap.size ≤ gb258)); have n7_ := Aside0.mk ((by rw [hg]; exact (below_size q7_) : w.heap.size ≤ gb258)); have n8_ := Aside0.mk ((by rw [hg]; exact Nat.ne_of_lt (blk_lt (g := gb246) (o := .cells #[.slice A0_0 l0_0.length c0_0, .slice A0_1 l0_1.length c0_1, .slice A0_2 l0_2.length c0_2] 26 (0, 0)) q8_) : gb246 ≠ gb258)); have n9_ := Aside0.mk ((by rw [hg]; exact Nat.ne_of_gt (blk_lt (g := gb246) (o := .cells #[.slice A0_0 l0_0.length c0_0, .slice A0_1 l0_1.length c0_1, .slice A0_2 l0_2.length c0_2] 26 (0, 0)) q8_) : gb258 ≠ gb246)); clear HO251; clear HO254; clear HO257; clear BK246; clear HB; have HO251 := n0_; have HO254 := n1_; have HO257 := n2_; have BK246 := n3_; have HB := n4_; have BK258 := n5_; have GW258 := n6_; have GE258 := n7_; have NB246_258 := n8_; have NB258_246 := n9_; clear n0_ n1_ n2_ n3_ n4_ n5_ n6_ n7_ n8_ n9_; clear hb hbox hg; obtain ⟨Ao122, co122, eo122⟩ := Kd.R_slice HO251.out; subst eo122; have hnb123 := NB258_246.out; have hnc123 := NB246_258.out; have hcz124_0 : w121.cell? ⟨gb258, 0, none⟩ = some (.slice none 0 0) := (blk_cell BK258.out 0).trans rfl; have hcz124_1 : w121.cell? ⟨gb258, 1, none⟩ = some (.slice none 0 0) := (blk_cell BK258.out 1).trans rfl; have hcz124_2 : w121.cell? ⟨gb258, 2, none⟩ = some (.slice none 0 0) := (blk_cell BK258.out 2).trans rfl; have hfz124_0 := blk_frozen BK258.out 0; have hfz124_1 := blk_frozen BK258.out 1; have hfz124_2 := blk_frozen BK258.out 2; obtain ⟨Ao125, co125, eo125⟩ := Kd.R_slice HO254.out; subst eo125; obtain ⟨Ao126, co126, eo126⟩ := Kd.R_slice HO257.out; subst eo126) | ((with_reducible refine gate_callee (f := 12) rfl ?_); refine goesL_ (some 32) rfl rfl Try.func12 q37_ rfl #[.agg #[.slice Ao122 t249.length co122, .slice Ao125 t252.length co125, .slice Ao126 t255.length co126], .slice A1 l1.length c1] rfl q2_ ?_; (with_reducible refine (blast_Run.calls kj3 _ _ t249 _ _ t252 _ _ t255 _ _ l1 t259 t262 _ ?side1 ?side2 ?side3 ?side4 ?side5 ?side6 ?side7 ?side8 A18.out).mono ?_); (case side1 => refine (Kd.R_reads' (e := 52) (base := w.heap.size) (ok := fun k_ => True) (n := t249.length) (c := co122) ?_).2.2; exact (by (with_reducible repeat (first | apply Kd.R_alloc | apply Kd.R_drewN | apply Kd.R_drew)); exact (Kd.R_mono (Kd.R_far (p := ⟨gb258, 2, none⟩) (Kd.R_far (p := ⟨gb258, 1, none⟩) (Kd.R_far (p := ⟨gb258, 0, none⟩) (Kd.R_types HO251.out BK258.out q55_) (fun _ hk => hk.2) (.slice Ao122 t249.length co122)) (fun _ hk => hk.2) (.slice Ao125 t252.length co125)) (fun _ hk => hk.2) (.slice Ao126 t255.length co126)) (fun _ h_ => h_.1)))); (case side2 => exact (Kd.R_reads' HO251.out).2.1); (case side3 => refine (Kd.R_reads' (e := 54) (base := w.heap.size) (ok := fun k_ => True) (n := t252.length) (c := co125) ?_).2.2; exact (by (with_reducible repeat (first | apply Kd.R_alloc | apply Kd.R_drewN | apply Kd.R_drew)); exact (Kd.R_mono (Kd.R_far (p := ⟨gb258, 2, none⟩) (Kd.R_far (p := ⟨gb258, 1, none⟩) (Kd.R_far (p := ⟨gb258, 0, none⟩) (Kd.R_types HO254.out BK258.out q55_) (fun _ hk => hk.2) (.slice Ao122 t249.length co122)) (fun _ hk => hk.2) (.slice Ao125 t252.length co125)) (fun _ hk => hk.2) (.slice Ao126 t255.length co126)) (fun _ h_ => h_.1)))); (case side4 => exact (Kd.R_reads' HO254.out).2.1); (case side5 => refine (Kd.R_reads' (e := 3) (base := w.heap.size) (ok := fun k_ => True) (n := t255.length) (c := co126) ?_).2.2; exact (by (with_reducible repeat (first | apply Kd.R_alloc | apply Kd.R_drewN | apply Kd.R_drew)); exact (Kd.R_mono (Kd.R_far (p := ⟨gb258, 2, none⟩) (Kd.R_far (p := ⟨gb258, 1, none⟩) (Kd.R_far (p := ⟨gb258, 0, none⟩) (Kd.R_types HO257.out BK258.out q55_) (fun _ hk => hk.2) (.slice Ao122 t249.length co122)) (fun _ hk => hk.2) (.slice Ao125 t252.length co125)) (fun _ hk => hk.2) (.slice Ao126 t255.length co126)) (fun _ h_ => h_.1)))); (case side6 => exact (Kd.R_reads' HO257.out).2.1); (case side7 => exact Kd.C_below HR1.out q4_); (case side8 => exact HC1.out); rintro e w127 ⟨v260, rfl, ho0, hb⟩; refine ⟨_, rfl, ?_⟩; have n0_ := Aside0.mk (Kd.R_below (by (with_reducible repeat (first | apply Kd.R_alloc | apply Kd.R_drewN | apply Kd.R_drew)); exact (Kd.R_mono (Kd.R_far (p := ⟨gb258, 2, none⟩) (Kd.R_far (p := ⟨gb258, 1, none⟩) (Kd.R_far (p := ⟨gb258, 0, none⟩) (Kd.R_types HO251.out BK258.out q55_) (fun _ hk => hk.2) (.slice Ao122 t249.length co122)) (fun _ hk => hk.2) (.slice Ao125 t252.length co125)) (fun _ hk => hk.2) (.slice Ao126 t255.length co126)) (fun _ h_ => h_.1))) hb); have n1_ := Aside0.mk (Kd.R_below (by (with_reducible repeat (first | apply Kd.R_alloc | apply Kd.R_drewN | apply Kd.R_drew)); exact (Kd.R_mono (Kd.R_far (p := ⟨gb258, 2, none⟩) (Kd.R_far (p := ⟨gb258, 1, none⟩) (Kd.R_far (p := ⟨gb258, 0, none⟩) (Kd.R_types HO254.out BK258.out q55_) (fun _ hk => hk.2) (.slice Ao122 t249.length co122)) (fun _ hk => hk.2) (.slice Ao125 t252.length co125)) (fun _ hk => hk.2) (.slice Ao126 t255.length co126)) (fun _ h_ => h_.1))) hb); have n2_ := Aside0.mk (Kd.R_below (by (with_reducible repeat (first | apply Kd.R_alloc | apply Kd.R_drewN | apply Kd.R_drew)); exact (Kd.R_mono (Kd.R_far (p := ⟨gb258, 2, none⟩) (Kd.R_far (p := ⟨gb258, 1, none⟩) (Kd.R_far (p := ⟨gb258, 0, none⟩) (Kd.R_types HO257.out BK258.out q55_) (fun _ hk => hk.2) (.slice Ao122 t249.length co122)) (fun _ hk => hk.2) (.slice Ao125 t252.length co125)) (fun _ hk => hk.2) (.slice Ao126 t255.length co126)) (fun _ h_ => h_.1))) hb); have n3_ := Aside0.mk (Kd.R_lower ho0 (below_size q4_)); have n4_ := Aside0.mk (blk_below (g := gb246) (o := .cells #[.slice A0_0 l0_0.length c0_0, .slice A0_1 l0_1.length c0_1, .slice A0_2 l0_2.length c0_2] 26 (0, 0)) q23_ hb); have n5_ := Aside0.mk (blk_below (g := gb258) (o := .cells #[.slice Ao122 t249.length co122, .slice Ao125 t252.length co125, .slice Ao126 t255.length co126] 26 (0, 0)) (by (with_reducible repeat (first | refine blk_drewN ?_ _ | refine blk_drew ?_ | refine blk_alloc ?_ _)); refine blk_put (cs := #[.slice Ao122 t249.length co122, .slice Ao125 t252.length co125, .slice none 0 0]) ?_ 2 _ rfl; (with_reducible repeat (first | refine blk_drewN ?_ _ | refine blk_drew ?_ | refine blk_alloc ?_ _)); refine blk_put (cs := #[.slice Ao122 t249.length co122, .slice none 0 0, .slice none 0 0]) ?_ 1 _ rfl; (with_reducible repeat (first | refine blk_drewN ?_ _ | refine blk_drew ?_ | refine blk_alloc ?_ _)); refine blk_put (cs := #[.slice none 0 0, .slice none 0 0, .slice none 0 0]) ?_ 0 _ rfl; (with_reducible repeat (first | refine blk_drewN ?_ _ | refine blk_drew ?_ | refine blk_alloc ?_ _)); exact BK258.out) hb); have n6_ := Aside0.mk (below_step q4_ hb); clear HO251; clear HO254; clear HO257; clear BK246; clear BK258; clear HB; have HO251 := n0_; have HO254 := n1_; have HO257 := n2_; have HO261 := n3_; have BK246 := n4_; have BK258 := n5_; have HB := n6_; clear n0_ n1_ n2_ n3_ n4_ n5_ n6_; (try clear hb); (try clear hb2); (try clear hk); (try clear hi); (try clear ho0); have hcz128_0 : w127.cell? ⟨gb246, 0, none⟩ = some (.slice A0_0 l0_0.length c0_0) := (blk_cell BK246.out 0).trans rfl; have hcz128_1 : w127.cell? ⟨gb246, 1, none⟩ = some (.slice A0_1 l0_1.length c0_1) := (blk_cell BK246.out 1).trans rfl; have hcz128_2 : w127.cell? ⟨gb246, 2, none⟩ = some (.slice A0_2 l0_2.length c0_2) := (blk_cell BK246.out 2).trans rfl; have hfz128_0 := blk_frozen BK246.out 0; have hfz128_1 := blk_frozen BK246.out 1; have hfz128_2 := blk_frozen BK246.out 2) | ((with_reducible refine gate_callee (f := 13) rfl ?_); refine goesL_ (some 38) rfl rfl Try.func13 q37_ rfl #[.agg #[.slice A0_0 l0_0.length c0_0, .slice A0_1 l0_1.length c0_1, .slice A0_2 l0_2.length c0_2], .slice A1 l1.length c1] rfl q2_ ?_; (with_reducible refine (retargetref04_Run.calls kj3 _ _ l0_0 _ _ l0_1 _ _ l0_2 _ _ l1 t263 t266 _ ?side1 ?side2 ?side3 ?side4 ?side5 ?side6 ?side7 ?side8 A19.out).mono ?_); (case side1 => repeat (first | exact (Kd.C_below HR0_0.out HB.out) | (with_reducible refine Kd.C_alloc ?_ _) | (with_reducible refine Kd.C_drewN ?_ _) | (with_reducible refine Kd.C_drew ?_))); (case side2 => exact HC0_0.out); (case side3 => repeat (first | exact (Kd.C_below HR0_1.out HB.out) | (with_reducible refine Kd.C_alloc ?_ _) | (with_reducible refine Kd.C_drewN ?_ _) | (with_reducible refine Kd.C_drew ?_))); (case side4 => exact HC0_1.out); (case side5 => repeat (first | exact (Kd.C_below HR0_2.out HB.out) | (with_reducible refine Kd.C_alloc ?_ _) | (with_reducible refine Kd.C_drewN ?_ _) | (with_reducible refine Kd.C_drew ?_))); (case side6 => exact HC0_2.out); (case side7 => repeat (first | exact (Kd.C_below HR1.out HB.out) | (with_reducible refine Kd.C_alloc ?_ _) | (with_reducible refine Kd.C_drewN ?_ _) | (with_reducible refine Kd.C_drew ?_))); (case side8 => exact HC1.out); rintro e w129 ⟨v264, rfl, ho0, hb⟩; refine ⟨_, rfl, ?_⟩; have n0_ := Aside0.mk (Kd.R_below q21_ hb); have n1_ := Aside0.mk (Kd.R_below q20_ hb); have n2_ := Aside0.mk (Kd.R_below q19_ hb); have n3_ := Aside0.mk (Kd.R_elder' q14_ (Kd.R_base ho0) hb); have n4_ := Aside0.mk (Kd.R_lower (Kd.R_new' ho0 (Kd.R_lt q14_)) (below_size q4_)); have n5_ := Aside0.mk (blk_below (g := gb246) (o := .cells #[.slice A0_0 l0_0.length c0_0, .slice A0_1 l0_1.length c0_1, .slice A0_2 l0_2.length c0_2] 26 (0, 0)) q8_ hb); have n6_ := Aside0.mk (blk_below (g := gb258) (o := .cells #[.slice Ao122 t249.length co122, .slice Ao125 t252.length co125, .slice Ao126 t255.length co126] 26 (0, 0)) q22_ hb); have n7_ := Aside0.mk (below_step q4_ hb); clear HO251; clear HO254; clear HO257; clear HO261; clear BK246; clear BK258; clear HB; have HO251 := n0_; have HO254 := n1_; have HO257 := n2_; have HO261 := n3_; have HO265 := n4_; have BK246 := n5_; have BK258 := n6_; have HB := n7_; clear n0_ n1_ n2_ n3_ n4_ n5_ n6_ n7_; (try clear hb); (try clear hb2); (try clear hk); (try clear hi); (try clear ho0); have hcz130_0 : w129.cell? ⟨gb258, 0, none⟩ = some (.slice Ao122 t249.length co122) := (blk_cell BK258.out 0).trans rfl; have hcz130_1 : w129.cell? ⟨gb258, 1, none⟩ = some (.slice Ao125 t252.length co125) := (blk_cell BK258.out 1).trans rfl; have hcz130_2 : w129.cell? ⟨gb258, 2, none⟩ = some (.slice Ao126 t255.length co126) := (blk_cell BK258.out 2).trans rfl; have hfz130_0 := blk_frozen BK258.out 0; have hfz130_1 := blk_frozen BK258.out 1; have hfz130_2 := blk_frozen BK258.out 2) | ((with_reducible refine gate_callee (f := 14) rfl ?_); refine goesL_ (some 44) rfl rfl Try.func14 q37_ rfl #[.agg #[.slice Ao122 t249.length co122, .slice Ao125 t252.length co125, .slice Ao126 t255.length co126], .slice A2 l2.length c2] rfl q2_ ?_; (with_reducible refine (blast_Inputs.calls kj3 _ _ t249 _ _ t252 _ _ t255 _ _ l2 t267 t270 _ ?side1 ?side2 ?side3 ?side4 ?side5 ?side6 ?side7 ?side8 A20.out).mono ?_); (case side1 => repeat (first | exact (Kd.R_reads' HO251.out).2.2 | (with_reducible refine Kd.C_alloc ?_ _) | (with_reducible refine Kd.C_drewN ?_ _) | (with_reducible refine Kd.C_drew ?_))); (case side2 => exact (Kd.R_reads' HO251.out).2.1); (case side3 => repeat (first | exact (Kd.R_reads' HO254.out).2.2 | (with_reducible refine Kd.C_alloc ?_ _) | (with_reducible refine Kd.C_drewN ?_ _) | (with_reducible refine Kd.C_drew ?_))); (case side4 => exact (Kd.R_reads' HO254.out).2.1); (case side5 => repeat (first | exact (Kd.R_reads' HO257.out).2.2 | (with_reducible refine Kd.C_alloc ?_ _) | (with_reducible refine Kd.C_drewN ?_ _) | (with_reducible refine Kd.C_drew ?_))); (case side6 => exact (Kd.R_reads' HO257.out).2.1); (case side7 => repeat (first | exact (Kd.C_below HR2.out HB.out) | (with_reducible refine Kd.C_alloc ?_ _) | (with_reducible refine Kd.C_drewN ?_ _) | (with_reducible refine Kd.C_drew ?_))); (case side8 => exact HC2.out); rintro e w131 ⟨v268, rfl, ho0, hb⟩; refine ⟨_, rfl, ?_⟩; have n0_ := Aside0.mk (Kd.R_below q21_ hb); have n1_ := Aside0.mk (Kd.R_below q20_ hb); have n2_ := Aside0.mk (Kd.R_below q19_ hb); have n3_ := Aside0.mk (Kd.R_elder' q14_ (Kd.R_base ho0) hb); have n4_ := Aside0.mk (Kd.R_elder' q18_ (Kd.R_base ho0) hb); have n5_ := Aside0.mk (Kd.R_lower (Kd.R_new' (Kd.R_new' ho0 (Kd.R_lt q14_)) (Kd.R_lt q18_)) (below_size q4_)); have n6_ := Aside0.mk (blk_below (g := gb246) (o := .cells #[.slice A0_0 l0_0.length c0_0, .slice A0_1 l0_1.length c0_1, .slice A0_2 l0_2.length c0_2] 26 (0, 0)) q8_ hb); have n7_ := Aside0.mk (blk_below (g := gb258) (o := .cells #[.slice Ao122 t249.length co122, .slice Ao125 t252.length co125, .slice Ao126 t255.length co126] 26 (0, 0)) q22_ hb); have n8_ := Aside0.mk (below_step q4_ hb); clear HO251; clear HO254; clear HO257; clear HO261; clear HO265; clear BK246; clear BK258; clear HB; have HO251 := n0_; have HO254 := n1_; have HO257 := n2_; have HO261 := n3_; have HO265 := n4_; have HO269 := n5_; have BK246 := n6_; have BK258 := n7_; have HB := n8_; clear n0_ n1_ n2_ n3_ n4_ n5_ n6_ n7_ n8_; (try clear hb); (try clear hb2); (try clear hk); (try clear hi); (try clear ho0); have hcz132_0 : w131.cell? ⟨gb246, 0, none⟩ = some (.slice A0_0 l0_0.length c0_0) := (blk_cell BK246.out 0).trans rfl; have hcz132_1 : w131.cell? ⟨gb246, 1, none⟩ = some (.slice A0_1 l0_1.length c0_1) := (blk_cell BK246.out 1).trans rfl; have hcz132_2 : w131.cell? ⟨gb246, 2, none⟩ = some (.slice A0_2 l0_2.length c0_2) := (blk_cell BK246.out 2).trans rfl; have hfz132_0 := blk_frozen BK246.out 0; have hfz132_1 := blk_frozen BK246.out 1; have hfz132_2 := blk_frozen BK246.out 2) | ((with_reducible refine gate_callee (f := 15) rfl ?_); refine goesL_ (some 50) rfl rfl Try.func15 q37_ rfl #[.agg #[.slice A0_0 l0_0.length c0_0, .slice A0_1 l0_1.length c0_1, .slice A0_2 l0_2.length c0_2], .slice A2 l2.length c2] rfl q2_ ?_; (with_reducible refine (retargetref04_Inputs.calls kj3 _ _ l0_0 _ _ l0_1 _ _ l0_2 _ _ l2 t271 t274 _ ?side1 ?side2 ?side3 ?side4 ?side5 ?side6 ?side7 ?side8 A21.out).mono ?_); (case side1 => repeat (first | exact (Kd.C_below HR0_0.out HB.out) | (with_reducible refine Kd.C_alloc ?_ _) | (with_reducible refine Kd.C_drewN ?_ _) | (with_reducible refine Kd.C_drew ?_))); (case side2 => exact HC0_0.out); (case side3 => repeat (first | exact (Kd.C_below HR0_1.out HB.out) | (with_reducible refine Kd.C_alloc ?_ _) | (with_reducible refine Kd.C_drewN ?_ _) | (with_reducible refine Kd.C_drew ?_))); (case side4 => exact HC0_1.out); (case side5 => repeat (first | exact (Kd.C_below HR0_2.out HB.out) | (with_reducible refine Kd.C_alloc ?_ _) | (with_reducible refine Kd.C_drewN ?_ _) | (with_reducible refine Kd.C_drew ?_))); (case side6 => exact HC0_2.out); (case side7 => repeat (first | exact (Kd.C_below HR2.out HB.out) | (with_reducible refine Kd.C_alloc ?_ _) | (with_reducible refine Kd.C_drewN ?_ _) | (with_reducible refine Kd.C_drew ?_))); (case side8 => exact HC2.out); rintro e w133 ⟨v272, rfl, ho0, hb⟩; refine ⟨_, rfl, ?_⟩; have n0_ := Aside0.mk (Kd.R_below q21_ hb); have n1_ := Aside0.mk (Kd.R_below q20_ hb); have n2_ := Aside0.mk (Kd.R_below q19_ hb); have n3_ := Aside0.mk (Kd.R_elder' q14_ (Kd.R_base ho0) hb); have n4_ := Aside0.mk (Kd.R_elder' q18_ (Kd.R_base ho0) hb); have n5_ := Aside0.mk (Kd.R_elder' q25_ (Kd.R_base ho0) hb); have n6_ := Aside0.mk (Kd.R_lower (Kd.R_new' (Kd.R_new' (Kd.R_new' ho0 (Kd.R_lt q14_)) (Kd.R_lt q18_)) (Kd.R_lt q25_)) (below_size q4_)); have n7_ := Aside0.mk (blk_below (g := gb246) (o := .cells #[.slice A0_0 l0_0.length c0_0, .slice A0_1 l0_1.length c0_1, .slice A0_2 l0_2.length c0_2] 26 (0, 0)) q8_ hb); have n8_ := Aside0.mk (blk_below (g := gb258) (o := .cells #[.slice Ao122 t249.length co122, .slice Ao125 t252.length co125, .slice Ao126 t255.length co126] 26 (0, 0)) q22_ hb); have n9_ := Aside0.mk (below_step q4_ hb); clear HO251; clear HO254; clear HO257; clear HO261; clear HO265; clear HO269; clear BK246; clear BK258; clear HB; have HO251 := n0_; have HO254 := n1_; have HO257 := n2_; have HO261 := n3_; have HO265 := n4_; have HO269 := n5_; have HO273 := n6_; have BK246 := n7_; have BK258 := n8_; have HB := n9_; clear n0_ n1_ n2_ n3_ n4_ n5_ n6_ n7_ n8_ n9_; (try clear hb); (try clear hb2); (try clear hk); (try clear hi); (try clear ho0)))
      have n0_ := Aside0.mk (Kd.R_drew HO251.out)
      have n1_ := Aside0.mk (Kd.R_drew HO254.out)
      have n2_ := Aside0.mk (Kd.R_drew HO257.out)
      have n3_ := Aside0.mk (Kd.R_drew HO261.out)
      have n4_ := Aside0.mk (Kd.R_drew HO265.out)
      have n5_ := Aside0.mk (Kd.R_drew HO269.out)
      have n6_ := Aside0.mk (Kd.R_drew HO273.out)
      have n7_ := Aside0.mk (blk_drew BK246.out)
      have n8_ := Aside0.mk (blk_drew BK258.out)
      have n9_ := Aside0.mk (below_drew1 HB.out)
      clear HO251
      clear HO254
      clear HO257
      clear HO261
      clear HO265
      clear HO269
      clear HO273
      clear BK246
      clear BK258
      clear HB
      have HO251 := n0_
      have HO254 := n1_
      have HO257 := n2_
      have HO261 := n3_
      have HO265 := n4_
      have HO269 := n5_
      have HO273 := n6_
      have BK246 := n7_
      have BK258 := n8_
      have HB := n9_
      clear n0_ n1_ n2_ n3_ n4_ n5_ n6_ n7_ n8_ n9_
      refine start_ (n := 31) (S := fun w' => w'.cell? ⟨gb258, 0, none⟩ = some (.slice Ao122 t249.length co122) ∧ w'.cell? ⟨gb258, 1, none⟩ = some (.slice Ao125 t252.length co125) ∧ w'.cell? ⟨gb258, 2, none⟩ = some (.slice Ao126 t255.length co126) ∧ w'.cell? ⟨gb246, 0, none⟩ = some (.slice A0_0 l0_0.length c0_0) ∧ w'.cell? ⟨gb246, 1, none⟩ = some (.slice A0_1 l0_1.length c0_1) ∧ w'.cell? ⟨gb246, 2, none⟩ = some (.slice A0_2 l0_2.length c0_2)) (ds := []) #[false, false, false, false, false, false, false, false, false, false, false, false, false, false, false, false, false, false, false, false, false, false, false, false, false, false, false, false, false, false, false] q37_ rfl rfl ⟨(blk_cell BK258.out 0).trans rfl, (blk_cell BK258.out 1).trans rfl, (blk_cell BK258.out 2).trans rfl, (blk_cell BK246.out 0).trans rfl, (blk_cell BK246.out 1).trans rfl, (blk_cell BK246.out 2).trans rfl⟩ (fun hHeld => ?_); refine with_tabW retargetlaw04_BlastRuns.tab8 retargetlaw04_BlastRuns.bits8 (fun HT_ HW_ => ?_)
      generalize w133.drew = w134 at HO251 HO254 HO257 HO261 HO265 HO269 HO273 BK246 BK258 HB hHeld ⊢
      refine tz_ (i := 0) (N := some 53) (h := ?_)
      refine tz_ (i := 2) (N := some 55) (h := ?_)
      refine nz_ (i := 1) (N := some 54) (h := fun K hK => ?_)
      refine goes_ Try.func16 q37_ rfl #[.agg #[.slice Ao122 t249.length co122, .slice Ao125 t252.length co125, .slice Ao126 t255.length co126]] (by rfl) rfl rfl q2_ ?_
      with_reducible refine (blast_Check.calls kj3 _ _ t249 _ _ t252 _ _ t255 t275 _ ?side1 ?side2 ?side3 ?side4 ?side5 ?side6 A22.out).mono ?_
      (case side1 => repeat (first | exact (Kd.R_reads' HO251.out).2.2 | (with_reducible refine Kd.C_alloc ?_ _) | (with_reducible refine Kd.C_drewN ?_ _) | (with_reducible refine Kd.C_drew ?_)))
      (case side2 => exact (Kd.R_reads' HO251.out).2.1)
      (case side3 => repeat (first | exact (Kd.R_reads' HO254.out).2.2 | (with_reducible refine Kd.C_alloc ?_ _) | (with_reducible refine Kd.C_drewN ?_ _) | (with_reducible refine Kd.C_drew ?_)))
      (case side4 => exact (Kd.R_reads' HO254.out).2.1)
      (case side5 => repeat (first | exact (Kd.R_reads' HO257.out).2.2 | (with_reducible refine Kd.C_alloc ?_ _) | (with_reducible refine Kd.C_drewN ?_ _) | (with_reducible refine Kd.C_drew ?_)))
      (case side6 => exact (Kd.R_reads' HO257.out).2.1)
      rintro e w135 ⟨rfl, hb⟩
      refine ⟨_, rfl, ?_⟩
      have n0_ := Aside0.mk (Kd.R_below q21_ hb)
      have n1_ := Aside0.mk (Kd.R_below q20_ hb)
      have n2_ := Aside0.mk (Kd.R_below q19_ hb)
      have n3_ := Aside0.mk (Kd.R_below q14_ hb)
      have n4_ := Aside0.mk (Kd.R_below q18_ hb)
      have n5_ := Aside0.mk (Kd.R_below q25_ hb)
      have n6_ := Aside0.mk (Kd.R_below q46_ hb)
      have n7_ := Aside0.mk (blk_below (g := gb246) (o := .cells #[.slice A0_0 l0_0.length c0_0, .slice A0_1 l0_1.length c0_1, .slice A0_2 l0_2.length c0_2] 26 (0, 0)) q8_ hb)
      have n8_ := Aside0.mk (blk_below (g := gb258) (o := .cells #[.slice Ao122 t249.length co122, .slice Ao125 t252.length co125, .slice Ao126 t255.length co126] 26 (0, 0)) q22_ hb)
      have n9_ := Aside0.mk (below_step q4_ hb)
      clear HO251
      clear HO254
      clear HO257
      clear HO261
      clear HO265
      clear HO269
      clear HO273
      clear BK246
      clear BK258
      clear HB
      have HO251 := n0_
      have HO254 := n1_
      have HO257 := n2_
      have HO261 := n3_
      have HO265 := n4_
      have HO269 := n5_
      have HO273 := n6_
      have BK246 := n7_
      have BK258 := n8_
      have HB := n9_
      clear n0_ n1_ n2_ n3_ n4_ n5_ n6_ n7_ n8_ n9_
      (try clear hb)
      (try clear hb2)
      (try clear hk)
      (try clear hi)
      refine hK.out _ _ ⟨(blk_cell BK258.out 0).trans rfl, (blk_cell BK258.out 1).trans rfl, (blk_cell BK258.out 2).trans rfl, (blk_cell BK246.out 0).trans rfl, (blk_cell BK246.out 1).trans rfl, (blk_cell BK246.out 2).trans rfl⟩ (fun hHeld => ?_)
      clear hK K
      refine mz_ (some 54) (h := ?_)
      refine nz_ (i := 3) (N := some 56) (h := fun K hK => ?_)
      refine goes_ Try.func17 q37_ rfl #[.agg #[.slice A0_0 l0_0.length c0_0, .slice A0_1 l0_1.length c0_1, .slice A0_2 l0_2.length c0_2]] (by rfl) rfl rfl q2_ ?_
      with_reducible refine (retargetref04_Check.calls kj3 _ _ l0_0 _ _ l0_1 _ _ l0_2 t276 _ ?side1 ?side2 ?side3 ?side4 ?side5 ?side6 A23.out).mono ?_
      (case side1 => repeat (first | exact (Kd.C_below HR0_0.out HB.out) | (with_reducible refine Kd.C_alloc ?_ _) | (with_reducible refine Kd.C_drewN ?_ _) | (with_reducible refine Kd.C_drew ?_)))
      (case side2 => exact HC0_0.out)
      (case side3 => repeat (first | exact (Kd.C_below HR0_1.out HB.out) | (with_reducible refine Kd.C_alloc ?_ _) | (with_reducible refine Kd.C_drewN ?_ _) | (with_reducible refine Kd.C_drew ?_)))
      (case side4 => exact HC0_1.out)
      (case side5 => repeat (first | exact (Kd.C_below HR0_2.out HB.out) | (with_reducible refine Kd.C_alloc ?_ _) | (with_reducible refine Kd.C_drewN ?_ _) | (with_reducible refine Kd.C_drew ?_)))
      (case side6 => exact HC0_2.out)
      rintro e w136 ⟨rfl, hb⟩
      refine ⟨_, rfl, ?_⟩
      have n0_ := Aside0.mk (Kd.R_below q21_ hb)
      have n1_ := Aside0.mk (Kd.R_below q20_ hb)
      have n2_ := Aside0.mk (Kd.R_below q19_ hb)
      have n3_ := Aside0.mk (Kd.R_below q14_ hb)
      have n4_ := Aside0.mk (Kd.R_below q18_ hb)
      have n5_ := Aside0.mk (Kd.R_below q25_ hb)
      have n6_ := Aside0.mk (Kd.R_below q46_ hb)
      have n7_ := Aside0.mk (blk_below (g := gb246) (o := .cells #[.slice A0_0 l0_0.length c0_0, .slice A0_1 l0_1.length c0_1, .slice A0_2 l0_2.length c0_2] 26 (0, 0)) q8_ hb)
      have n8_ := Aside0.mk (blk_below (g := gb258) (o := .cells #[.slice Ao122 t249.length co122, .slice Ao125 t252.length co125, .slice Ao126 t255.length co126] 26 (0, 0)) q22_ hb)
      have n9_ := Aside0.mk (below_step q4_ hb)
      clear HO251
      clear HO254
      clear HO257
      clear HO261
      clear HO265
      clear HO269
      clear HO273
      clear BK246
      clear BK258
      clear HB
      have HO251 := n0_
      have HO254 := n1_
      have HO257 := n2_
      have HO261 := n3_
      have HO265 := n4_
      have HO269 := n5_
      have HO273 := n6_
      have BK246 := n7_
      have BK258 := n8_
      have HB := n9_
      clear n0_ n1_ n2_ n3_ n4_ n5_ n6_ n7_ n8_ n9_
      (try clear hb)
      (try clear hb2)
      (try clear hk)
      (try clear hi)
      obtain ⟨Ao137, co137, eo137⟩ := Kd.R_slice HO261.out
      (first | subst eo137 | (injection eo137 with f1_ f2_ f3_; have f4_ := f1_.symm; have f5_ := f3_.symm; clear f1_ f2_ f3_; subst f4_; subst f5_))
      obtain ⟨Ao138, co138, eo138⟩ := Kd.R_slice HO265.out
      (first | subst eo138 | (injection eo138 with f1_ f2_ f3_; have f4_ := f1_.symm; have f5_ := f3_.symm; clear f1_ f2_ f3_; subst f4_; subst f5_))
      refine hK.out _ _ ⟨(blk_cell BK258.out 0).trans rfl, (blk_cell BK258.out 1).trans rfl, (blk_cell BK258.out 2).trans rfl, (blk_cell BK246.out 0).trans rfl, (blk_cell BK246.out 1).trans rfl, (blk_cell BK246.out 2).trans rfl⟩ (fun hHeld => ?_)
      clear hK K
      refine mz_ (some 56) (h := ?_)
      refine pz_ (i := 4) (N := some 57) (h := ?_)
      refine pz_ (i := 5) (N := some 58) (h := ?_)
      refine pz_ (i := 6) (N := some 59) (h := ?_)
      refine pz_ (i := 7) (N := some 60) (h := ?_)
      refine nz_ (i := 8) (N := some 61) (h := fun K hK => ?_)
      refine goes_ Try.func18 q37_ rfl #[.slice Ao137 t259.length co137, .slice Ao138 t263.length co138] (by rfl) rfl rfl q2_ ?_
      with_reducible refine (retargetref04_SameBools.calls kj3 _ _ t259 _ _ t263 false _ ?side1 ?side2 ?side3 ?side4 A25.out).mono ?_
      (case side1 => repeat (first | exact (Kd.R_reads' HO261.out).2.2 | (with_reducible refine Kd.C_alloc ?_ _) | (with_reducible refine Kd.C_drewN ?_ _) | (with_reducible refine Kd.C_drew ?_)))
      (case side2 => exact (Kd.R_reads' HO261.out).2.1)
      (case side3 => repeat (first | exact (Kd.R_reads' HO265.out).2.2 | (with_reducible refine Kd.C_alloc ?_ _) | (with_reducible refine Kd.C_drewN ?_ _) | (with_reducible refine Kd.C_drew ?_)))
      (case side4 => exact (Kd.R_reads' HO265.out).2.1)
      rintro e w' ⟨rfl, ⟨nd, rfl⟩⟩
      refine ⟨_, rfl, ?_⟩
      refine hK.out _ _ ⟨(blk_cell BK258.out 0).trans rfl, (blk_cell BK258.out 1).trans rfl, (blk_cell BK258.out 2).trans rfl, (blk_cell BK246.out 0).trans rfl, (blk_cell BK246.out 1).trans rfl, (blk_cell BK246.out 2).trans rfl⟩ (fun hHeld => ?_)
      clear hK K
      refine mz_ (some 61) (h := ?_)
      refine pz_ (i := 9) (N := some 62) (h := ?_)
      refine pz_ (i := 10) (N := some 63) (h := ?_)
      refine oz_ (i := 11) (N := some 64) (h := ?_)
      refine oz_ (i := 12) (N := some 65) (h := ?_)
      refine oz_ (i := 13) (N := some 66) (h := ?_)
      refine pz_ (i := 14) (N := some 67) (h := ?_)
      refine pz_ (i := 15) (N := some 68) (h := ?_)
      refine oz_ (i := 16) (N := some 69) (h := ?_)
      refine oz_ (i := 17) (N := some 70) (h := ?_)
      refine oz_ (i := 18) (N := some 71) (h := ?_)
      refine pz_ (i := 19) (N := some 72) (h := ?_)
      refine pz_ (i := 20) (N := some 73) (h := ?_)
      refine oz_ (i := 21) (N := some 74) (h := ?_)
      refine oz_ (i := 22) (N := some 75) (h := ?_)
      refine oz_ (i := 23) (N := some 76) (h := ?_)
      refine pz_ (i := 24) (N := some 77) (h := ?_)
      refine pz_ (i := 25) (N := some 78) (h := ?_)
      refine oz_ (i := 26) (N := some 79) (h := ?_)
      refine oz_ (i := 27) (N := some 80) (h := ?_)
      refine oz_ (i := 28) (N := some 81) (h := ?_)
      refine pz_ (i := 29) (N := some 82) (h := ?_)
      refine pz_ (i := 30) (N := some 6) (h := ?_)
      refine done_ (done_of HT_.out q37_) ?_
      try go_wp2
      go_ret
      exact ⟨by first | rfl | (simp [errW_none, errW_some] <;> rfl) | (simp [*, errW_none, errW_some] <;> rfl), by repeat (first | (with_reducible first | exact HB.out | apply below_alloc | apply pw_below_drewN | apply below_drew1 | refine below_set ?_ GE246.out | refine below_set ?_ GE258.out) | exact HB.out)⟩
    ·rw [if_neg c24] at H
     have c24b0 : (t275 == t276) = false := beq_eq_false_iff_ne.mpr c24
     have c24b1 : (t275 != t276) = true := bne_iff_ne.mpr c24
     obtain rfl := Option.some.inj H
     have hcz139_0 : wc.cell? ⟨gb246, 0, none⟩ = some (.slice A0_0 l0_0.length c0_0) := (blk_cell BK246.out 0).trans rfl
     have hcz139_1 : wc.cell? ⟨gb246, 1, none⟩ = some (.slice A0_1 l0_1.length c0_1) := (blk_cell BK246.out 1).trans rfl
     have hcz139_2 : wc.cell? ⟨gb246, 2, none⟩ = some (.slice A0_2 l0_2.length c0_2) := (blk_cell BK246.out 2).trans rfl
     have hfz139_0 := blk_frozen BK246.out 0
     have hfz139_1 := blk_frozen BK246.out 1
     have hfz139_2 := blk_frozen BK246.out 2
     try go_wp2_with (first | ((with_reducible refine gate_callee (f := 6) rfl ?_); refine goesL_ (some 28) rfl rfl Try.func6 q37_ rfl #[.agg #[.slice A0_0 l0_0.length c0_0, .slice A0_1 l0_1.length c0_1, .slice A0_2 l0_2.length c0_2]] rfl q2_ ?_; (with_reducible refine (retargetref04_Twin.calls _ _ l0_0 _ _ l0_1 _ _ l0_2 t249 t252 t255 _ ?side1 ?side2 ?side3 ?side4 ?side5 ?side6 A17.out).mono ?_); (case side1 => repeat (first | exact (Kd.C_below HR0_0.out HB.out) | (with_reducible refine Kd.C_alloc ?_ _) | (with_reducible refine Kd.C_drewN ?_ _) | (with_reducible refine Kd.C_drew ?_))); (case side2 => exact HC0_0.out); (case side3 => repeat (first | exact (Kd.C_below HR0_1.out HB.out) | (with_reducible refine Kd.C_alloc ?_ _) | (with_reducible refine Kd.C_drewN ?_ _) | (with_reducible refine Kd.C_drew ?_))); (case side4 => exact HC0_1.out); (case side5 => repeat (first | exact (Kd.C_below HR0_2.out HB.out) | (with_reducible refine Kd.C_alloc ?_ _) | (with_reducible refine Kd.C_drewN ?_ _) | (with_reducible refine Kd.C_drew ?_))); (case side6 => exact HC0_2.out); rintro e w140 ⟨v250, v253, v256, rfl, ho0, ho1, ho2, hb⟩; refine ⟨_, rfl, ?_⟩; have n0_ := Aside0.mk (Kd.R_lower ho0 (below_size q7_)); have n1_ := Aside0.mk (Kd.R_lower ho1 (below_size q7_)); have n2_ := Aside0.mk (Kd.R_lower ho2 (below_size q7_)); have n3_ := Aside0.mk (blk_below (g := gb246) (o := .cells #[.slice A0_0 l0_0.length c0_0, .slice A0_1 l0_1.length c0_1, .slice A0_2 l0_2.length c0_2] 26 (0, 0)) q8_ hb); have n4_ := Aside0.mk (below_step q7_ hb); clear BK246; clear HB; have HO251 := n0_; have HO254 := n1_; have HO257 := n2_; have BK246 := n3_; have HB := n4_; clear n0_ n1_ n2_ n3_ n4_; (try clear hb); (try clear hb2); (try clear hk); (try clear hi); (try clear ho0); (try clear ho1); (try clear ho2)) | ((with_reducible refine gate_dst (N := 7) rfl ?_); (try (refine gate_guard (by rfl) ?_; dsimp only)); refine box_event ?hg (N := 7) ?hd (cs := #[.slice none 0 0, .slice none 0 0, .slice none 0 0]) (t := 26) ?hr ?_; (case hd => rfl); (case hg => rfl); (case hr => first | (go_simp; done) | (go_simp; rfl)); intro gb258 hg w141 hbox hb; have n0_ := Aside0.mk (Kd.R_below q21_ hb); have n1_ := Aside0.mk (Kd.R_below q20_ hb); have n2_ := Aside0.mk (Kd.R_below q19_ hb); have n3_ := Aside0.mk (blk_below (g := gb246) (o := .cells #[.slice A0_0 l0_0.length c0_0, .slice A0_1 l0_1.length c0_1, .slice A0_2 l0_2.length c0_2] 26 (0, 0)) q8_ hb); have n4_ := Aside0.mk (below_step q7_ hb); have n5_ := Aside0.mk (hbox); have n6_ := Aside0.mk ((by rw [hg]; exact (below_size q7_) : w.heap.size ≤ gb258)); have n7_ := Aside0.mk ((by rw [hg]; exact (below_size q7_) : w.heap.size ≤ gb258)); have n8_ := Aside0.mk ((by rw [hg]; exact Nat.ne_of_lt (blk_lt (g := gb246) (o := .cells #[.slice A0_0 l0_0.length c0_0, .slice A0_1 l0_1.length c0_1, .slice A0_2 l0_2.length c0_2] 26 (0, 0)) q8_) : gb246 ≠ gb258)); have n9_ := Aside0.mk ((by rw [hg]; exact Nat.ne_of_gt (blk_lt (g := gb246) (o := .cells #[.slice A0_0 l0_0.length c0_0, .slice A0_1 l0_1.length c0_1, .slice A0_2 l0_2.length c0_2] 26 (0, 0)) q8_) : gb258 ≠ gb246)); clear HO251; clear HO254; clear HO257; clear BK246; clear HB; have HO251 := n0_; have HO254 := n1_; have HO257 := n2_; have BK246 := n3_; have HB := n4_; have BK258 := n5_; have GW258 := n6_; have GE258 := n7_; have NB246_258 := n8_; have NB258_246 := n9_; clear n0_ n1_ n2_ n3_ n4_ n5_ n6_ n7_ n8_ n9_; clear hb hbox hg; obtain ⟨Ao142, co142, eo142⟩ := Kd.R_slice HO251.out; subst eo142; have hnb143 := NB258_246.out; have hnc143 := NB246_258.out; have hcz144_0 : w141.cell? ⟨gb258, 0, none⟩ = some (.slice none 0 0) := (blk_cell BK258.out 0).trans rfl; have hcz144_1 : w141.cell? ⟨gb258, 1, none⟩ = some (.slice none 0 0) := (blk_cell BK258.out 1).trans rfl; have hcz144_2 : w141.cell? ⟨gb258, 2, none⟩ = some (.slice none 0 0) := (blk_cell BK258.out 2).trans rfl; have hfz144_0 := blk_frozen BK258.out 0; have hfz144_1 := blk_frozen BK258.out 1; have hfz144_2 := blk_frozen BK258.out 2; obtain ⟨Ao145, co145, eo145⟩ := Kd.R_slice HO254.out; subst eo145; obtain ⟨Ao146, co146, eo146⟩ := Kd.R_slice HO257.out; subst eo146) | ((with_reducible refine gate_callee (f := 12) rfl ?_); refine goesL_ (some 32) rfl rfl Try.func12 q37_ rfl #[.agg #[.slice Ao142 t249.length co142, .slice Ao145 t252.length co145, .slice Ao146 t255.length co146], .slice A1 l1.length c1] rfl q2_ ?_; (with_reducible refine (blast_Run.calls kj3 _ _ t249 _ _ t252 _ _ t255 _ _ l1 t259 t262 _ ?side1 ?side2 ?side3 ?side4 ?side5 ?side6 ?side7 ?side8 A18.out).mono ?_); (case side1 => refine (Kd.R_reads' (e := 52) (base := w.heap.size) (ok := fun k_ => True) (n := t249.length) (c := co142) ?_).2.2; exact (by (with_reducible repeat (first | apply Kd.R_alloc | apply Kd.R_drewN | apply Kd.R_drew)); exact (Kd.R_mono (Kd.R_far (p := ⟨gb258, 2, none⟩) (Kd.R_far (p := ⟨gb258, 1, none⟩) (Kd.R_far (p := ⟨gb258, 0, none⟩) (Kd.R_types HO251.out BK258.out q55_) (fun _ hk => hk.2) (.slice Ao142 t249.length co142)) (fun _ hk => hk.2) (.slice Ao145 t252.length co145)) (fun _ hk => hk.2) (.slice Ao146 t255.length co146)) (fun _ h_ => h_.1)))); (case side2 => exact (Kd.R_reads' HO251.out).2.1); (case side3 => refine (Kd.R_reads' (e := 54) (base := w.heap.size) (ok := fun k_ => True) (n := t252.length) (c := co145) ?_).2.2; exact (by (with_reducible repeat (first | apply Kd.R_alloc | apply Kd.R_drewN | apply Kd.R_drew)); exact (Kd.R_mono (Kd.R_far (p := ⟨gb258, 2, none⟩) (Kd.R_far (p := ⟨gb258, 1, none⟩) (Kd.R_far (p := ⟨gb258, 0, none⟩) (Kd.R_types HO254.out BK258.out q55_) (fun _ hk => hk.2) (.slice Ao142 t249.length co142)) (fun _ hk => hk.2) (.slice Ao145 t252.length co145)) (fun _ hk => hk.2) (.slice Ao146 t255.length co146)) (fun _ h_ => h_.1)))); (case side4 => exact (Kd.R_reads' HO254.out).2.1); (case side5 => refine (Kd.R_reads' (e := 3) (base := w.heap.size) (ok := fun k_ => True) (n := t255.length) (c := co146) ?_).2.2; exact (by (with_reducible repeat (first | apply Kd.R_alloc | apply Kd.R_drewN | apply Kd.R_drew)); exact (Kd.R_mono (Kd.R_far (p := ⟨gb258, 2, none⟩) (Kd.R_far (p := ⟨gb258, 1, none⟩) (Kd.R_far (p := ⟨gb258, 0, none⟩) (Kd.R_types HO257.out BK258.out q55_) (fun _ hk => hk.2) (.slice Ao142 t249.length co142)) (fun _ hk => hk.2) (.slice Ao145 t252.length co145)) (fun _ hk => hk.2) (.slice Ao146 t255.length co146)) (fun _ h_ => h_.1)))); (case side6 => exact (Kd.R_reads' HO257.out).2.1); (case side7 => exact Kd.C_below HR1.out q4_); (case side8 => exact HC1.out); rintro e w147 ⟨v260, rfl, ho0, hb⟩; refine ⟨_, rfl, ?_⟩; have n0_ := Aside0.mk (Kd.R_below (by (with_reducible repeat (first | apply Kd.R_alloc | apply Kd.R_drewN | apply Kd.R_drew)); exact (Kd.R_mono (Kd.R_far (p := ⟨gb258, 2, none⟩) (Kd.R_far (p := ⟨gb258, 1, none⟩) (Kd.R_far (p := ⟨gb258, 0, none⟩) (Kd.R_types HO251.out BK258.out q55_) (fun _ hk => hk.2) (.slice Ao142 t249.length co142)) (fun _ hk => hk.2) (.slice Ao145 t252.length co145)) (fun _ hk => hk.2) (.slice Ao146 t255.length co146)) (fun _ h_ => h_.1))) hb); have n1_ := Aside0.mk (Kd.R_below (by (with_reducible repeat (first | apply Kd.R_alloc | apply Kd.R_drewN | apply Kd.R_drew)); exact (Kd.R_mono (Kd.R_far (p := ⟨gb258, 2, none⟩) (Kd.R_far (p := ⟨gb258, 1, none⟩) (Kd.R_far (p := ⟨gb258, 0, none⟩) (Kd.R_types HO254.out BK258.out q55_) (fun _ hk => hk.2) (.slice Ao142 t249.length co142)) (fun _ hk => hk.2) (.slice Ao145 t252.length co145)) (fun _ hk => hk.2) (.slice Ao146 t255.length co146)) (fun _ h_ => h_.1))) hb); have n2_ := Aside0.mk (Kd.R_below (by (with_reducible repeat (first | apply Kd.R_alloc | apply Kd.R_drewN | apply Kd.R_drew)); exact (Kd.R_mono (Kd.R_far (p := ⟨gb258, 2, none⟩) (Kd.R_far (p := ⟨gb258, 1, none⟩) (Kd.R_far (p := ⟨gb258, 0, none⟩) (Kd.R_types HO257.out BK258.out q55_) (fun _ hk => hk.2) (.slice Ao142 t249.length co142)) (fun _ hk => hk.2) (.slice Ao145 t252.length co145)) (fun _ hk => hk.2) (.slice Ao146 t255.length co146)) (fun _ h_ => h_.1))) hb); have n3_ := Aside0.mk (Kd.R_lower ho0 (below_size q4_)); have n4_ := Aside0.mk (blk_below (g := gb246) (o := .cells #[.slice A0_0 l0_0.length c0_0, .slice A0_1 l0_1.length c0_1, .slice A0_2 l0_2.length c0_2] 26 (0, 0)) q23_ hb); have n5_ := Aside0.mk (blk_below (g := gb258) (o := .cells #[.slice Ao142 t249.length co142, .slice Ao145 t252.length co145, .slice Ao146 t255.length co146] 26 (0, 0)) (by (with_reducible repeat (first | refine blk_drewN ?_ _ | refine blk_drew ?_ | refine blk_alloc ?_ _)); refine blk_put (cs := #[.slice Ao142 t249.length co142, .slice Ao145 t252.length co145, .slice none 0 0]) ?_ 2 _ rfl; (with_reducible repeat (first | refine blk_drewN ?_ _ | refine blk_drew ?_ | refine blk_alloc ?_ _)); refine blk_put (cs := #[.slice Ao142 t249.length co142, .slice none 0 0, .slice none 0 0]) ?_ 1 _ rfl; (with_reducible repeat (first | refine blk_drewN ?_ _ | refine blk_drew ?_ | refine blk_alloc ?_ _)); refine blk_put (cs := #[.slice none 0 0, .slice none 0 0, .slice none 0 0]) ?_ 0 _ rfl; (with_reducible repeat (first | refine blk_drewN ?_ _ | refine blk_drew ?_ | refine blk_alloc ?_ _)); exact BK258.out) hb); have n6_ := Aside0.mk (below_step q4_ hb); clear HO251; clear HO254; clear HO257; clear BK246; clear BK258; clear HB; have HO251 := n0_; have HO254 := n1_; have HO257 := n2_; have HO261 := n3_; have BK246 := n4_; have BK258 := n5_; have HB := n6_; clear n0_ n1_ n2_ n3_ n4_ n5_ n6_; (try clear hb); (try clear hb2); (try clear hk); (try clear hi); (try clear ho0); have hcz148_0 : w147.cell? ⟨gb246, 0, none⟩ = some (.slice A0_0 l0_0.length c0_0) := (blk_cell BK246.out 0).trans rfl; have hcz148_1 : w147.cell? ⟨gb246, 1, none⟩ = some (.slice A0_1 l0_1.length c0_1) := (blk_cell BK246.out 1).trans rfl; have hcz148_2 : w147.cell? ⟨gb246, 2, none⟩ = some (.slice A0_2 l0_2.length c0_2) := (blk_cell BK246.out 2).trans rfl; have hfz148_0 := blk_frozen BK246.out 0; have hfz148_1 := blk_frozen BK246.out 1; have hfz148_2 := blk_frozen BK246.out 2) | ((with_reducible refine gate_callee (f := 13) rfl ?_); refine goesL_ (some 38) rfl rfl Try.func13 q37_ rfl #[.agg #[.slice A0_0 l0_0.length c0_0, .slice A0_1 l0_1.length c0_1, .slice A0_2 l0_2.length c0_2], .slice A1 l1.length c1] rfl q2_ ?_; (with_reducible refine (retargetref04_Run.calls kj3 _ _ l0_0 _ _ l0_1 _ _ l0_2 _ _ l1 t263 t266 _ ?side1 ?side2 ?side3 ?side4 ?side5 ?side6 ?side7 ?side8 A19.out).mono ?_); (case side1 => repeat (first | exact (Kd.C_below HR0_0.out HB.out) | (with_reducible refine Kd.C_alloc ?_ _) | (with_reducible refine Kd.C_drewN ?_ _) | (with_reducible refine Kd.C_drew ?_))); (case side2 => exact HC0_0.out); (case side3 => repeat (first | exact (Kd.C_below HR0_1.out HB.out) | (with_reducible refine Kd.C_alloc ?_ _) | (with_reducible refine Kd.C_drewN ?_ _) | (with_reducible refine Kd.C_drew ?_))); (case side4 => exact HC0_1.out); (case side5 => repeat (first | exact (Kd.C_below HR0_2.out HB.out) | (with_reducible refine Kd.C_alloc ?_ _) | (with_reducible refine Kd.C_drewN ?_ _) | (with_reducible refine Kd.C_drew ?_))); (case side6 => exact HC0_2.out); (case side7 => repeat (first | exact (Kd.C_below HR1.out HB.out) | (with_reducible refine Kd.C_alloc ?_ _) | (with_reducible refine Kd.C_drewN ?_ _) | (with_reducible refine Kd.C_drew ?_))); (case side8 => exact HC1.out); rintro e w149 ⟨v264, rfl, ho0, hb⟩; refine ⟨_, rfl, ?_⟩; have n0_ := Aside0.mk (Kd.R_below q21_ hb); have n1_ := Aside0.mk (Kd.R_below q20_ hb); have n2_ := Aside0.mk (Kd.R_below q19_ hb); have n3_ := Aside0.mk (Kd.R_elder' q14_ (Kd.R_base ho0) hb); have n4_ := Aside0.mk (Kd.R_lower (Kd.R_new' ho0 (Kd.R_lt q14_)) (below_size q4_)); have n5_ := Aside0.mk (blk_below (g := gb246) (o := .cells #[.slice A0_0 l0_0.length c0_0, .slice A0_1 l0_1.length c0_1, .slice A0_2 l0_2.length c0_2] 26 (0, 0)) q8_ hb); have n6_ := Aside0.mk (blk_below (g := gb258) (o := .cells #[.slice Ao142 t249.length co142, .slice Ao145 t252.length co145, .slice Ao146 t255.length co146] 26 (0, 0)) q22_ hb); have n7_ := Aside0.mk (below_step q4_ hb); clear HO251; clear HO254; clear HO257; clear HO261; clear BK246; clear BK258; clear HB; have HO251 := n0_; have HO254 := n1_; have HO257 := n2_; have HO261 := n3_; have HO265 := n4_; have BK246 := n5_; have BK258 := n6_; have HB := n7_; clear n0_ n1_ n2_ n3_ n4_ n5_ n6_ n7_; (try clear hb); (try clear hb2); (try clear hk); (try clear hi); (try clear ho0); have hcz150_0 : w149.cell? ⟨gb258, 0, none⟩ = some (.slice Ao142 t249.length co142) := (blk_cell BK258.out 0).trans rfl; have hcz150_1 : w149.cell? ⟨gb258, 1, none⟩ = some (.slice Ao145 t252.length co145) := (blk_cell BK258.out 1).trans rfl; have hcz150_2 : w149.cell? ⟨gb258, 2, none⟩ = some (.slice Ao146 t255.length co146) := (blk_cell BK258.out 2).trans rfl; have hfz150_0 := blk_frozen BK258.out 0; have hfz150_1 := blk_frozen BK258.out 1; have hfz150_2 := blk_frozen BK258.out 2) | ((with_reducible refine gate_callee (f := 14) rfl ?_); refine goesL_ (some 44) rfl rfl Try.func14 q37_ rfl #[.agg #[.slice Ao142 t249.length co142, .slice Ao145 t252.length co145, .slice Ao146 t255.length co146], .slice A2 l2.length c2] rfl q2_ ?_; (with_reducible refine (blast_Inputs.calls kj3 _ _ t249 _ _ t252 _ _ t255 _ _ l2 t267 t270 _ ?side1 ?side2 ?side3 ?side4 ?side5 ?side6 ?side7 ?side8 A20.out).mono ?_); (case side1 => repeat (first | exact (Kd.R_reads' HO251.out).2.2 | (with_reducible refine Kd.C_alloc ?_ _) | (with_reducible refine Kd.C_drewN ?_ _) | (with_reducible refine Kd.C_drew ?_))); (case side2 => exact (Kd.R_reads' HO251.out).2.1); (case side3 => repeat (first | exact (Kd.R_reads' HO254.out).2.2 | (with_reducible refine Kd.C_alloc ?_ _) | (with_reducible refine Kd.C_drewN ?_ _) | (with_reducible refine Kd.C_drew ?_))); (case side4 => exact (Kd.R_reads' HO254.out).2.1); (case side5 => repeat (first | exact (Kd.R_reads' HO257.out).2.2 | (with_reducible refine Kd.C_alloc ?_ _) | (with_reducible refine Kd.C_drewN ?_ _) | (with_reducible refine Kd.C_drew ?_))); (case side6 => exact (Kd.R_reads' HO257.out).2.1); (case side7 => repeat (first | exact (Kd.C_below HR2.out HB.out) | (with_reducible refine Kd.C_alloc ?_ _) | (with_reducible refine Kd.C_drewN ?_ _) | (with_reducible refine Kd.C_drew ?_))); (case side8 => exact HC2.out); rintro e w151 ⟨v268, rfl, ho0, hb⟩; refine ⟨_, rfl, ?_⟩; have n0_ := Aside0.mk (Kd.R_below q21_ hb); have n1_ := Aside0.mk (Kd.R_below q20_ hb); have n2_ := Aside0.mk (Kd.R_below q19_ hb); have n3_ := Aside0.mk (Kd.R_elder' q14_ (Kd.R_base ho0) hb); have n4_ := Aside0.mk (Kd.R_elder' q18_ (Kd.R_base ho0) hb); have n5_ := Aside0.mk (Kd.R_lower (Kd.R_new' (Kd.R_new' ho0 (Kd.R_lt q14_)) (Kd.R_lt q18_)) (below_size q4_)); have n6_ := Aside0.mk (blk_below (g := gb246) (o := .cells #[.slice A0_0 l0_0.length c0_0, .slice A0_1 l0_1.length c0_1, .slice A0_2 l0_2.length c0_2] 26 (0, 0)) q8_ hb); have n7_ := Aside0.mk (blk_below (g := gb258) (o := .cells #[.slice Ao142 t249.length co142, .slice Ao145 t252.length co145, .slice Ao146 t255.length co146] 26 (0, 0)) q22_ hb); have n8_ := Aside0.mk (below_step q4_ hb); clear HO251; clear HO254; clear HO257; clear HO261; clear HO265; clear BK246; clear BK258; clear HB; have HO251 := n0_; have HO254 := n1_; have HO257 := n2_; have HO261 := n3_; have HO265 := n4_; have HO269 := n5_; have BK246 := n6_; have BK258 := n7_; have HB := n8_; clear n0_ n1_ n2_ n3_ n4_ n5_ n6_ n7_ n8_; (try clear hb); (try clear hb2); (try clear hk); (try clear hi); (try clear ho0); have hcz152_0 : w151.cell? ⟨gb246, 0, none⟩ = some (.slice A0_0 l0_0.length c0_0) := (blk_cell BK246.out 0).trans rfl; have hcz152_1 : w151.cell? ⟨gb246, 1, none⟩ = some (.slice A0_1 l0_1.length c0_1) := (blk_cell BK246.out 1).trans rfl; have hcz152_2 : w151.cell? ⟨gb246, 2, none⟩ = some (.slice A0_2 l0_2.length c0_2) := (blk_cell BK246.out 2).trans rfl; have hfz152_0 := blk_frozen BK246.out 0; have hfz152_1 := blk_frozen BK246.out 1; have hfz152_2 := blk_frozen BK246.out 2) | ((with_reducible refine gate_callee (f := 15) rfl ?_); refine goesL_ (some 50) rfl rfl Try.func15 q37_ rfl #[.agg #[.slice A0_0 l0_0.length c0_0, .slice A0_1 l0_1.length c0_1, .slice A0_2 l0_2.length c0_2], .slice A2 l2.length c2] rfl q2_ ?_; (with_reducible refine (retargetref04_Inputs.calls kj3 _ _ l0_0 _ _ l0_1 _ _ l0_2 _ _ l2 t271 t274 _ ?side1 ?side2 ?side3 ?side4 ?side5 ?side6 ?side7 ?side8 A21.out).mono ?_); (case side1 => repeat (first | exact (Kd.C_below HR0_0.out HB.out) | (with_reducible refine Kd.C_alloc ?_ _) | (with_reducible refine Kd.C_drewN ?_ _) | (with_reducible refine Kd.C_drew ?_))); (case side2 => exact HC0_0.out); (case side3 => repeat (first | exact (Kd.C_below HR0_1.out HB.out) | (with_reducible refine Kd.C_alloc ?_ _) | (with_reducible refine Kd.C_drewN ?_ _) | (with_reducible refine Kd.C_drew ?_))); (case side4 => exact HC0_1.out); (case side5 => repeat (first | exact (Kd.C_below HR0_2.out HB.out) | (with_reducible refine Kd.C_alloc ?_ _) | (with_reducible refine Kd.C_drewN ?_ _) | (with_reducible refine Kd.C_drew ?_))); (case side6 => exact HC0_2.out); (case side7 => repeat (first | exact (Kd.C_below HR2.out HB.out) | (with_reducible refine Kd.C_alloc ?_ _) | (with_reducible refine Kd.C_drewN ?_ _) | (with_reducible refine Kd.C_drew ?_))); (case side8 => exact HC2.out); rintro e w153 ⟨v272, rfl, ho0, hb⟩; refine ⟨_, rfl, ?_⟩; have n0_ := Aside0.mk (Kd.R_below q21_ hb); have n1_ := Aside0.mk (Kd.R_below q20_ hb); have n2_ := Aside0.mk (Kd.R_below q19_ hb); have n3_ := Aside0.mk (Kd.R_elder' q14_ (Kd.R_base ho0) hb); have n4_ := Aside0.mk (Kd.R_elder' q18_ (Kd.R_base ho0) hb); have n5_ := Aside0.mk (Kd.R_elder' q25_ (Kd.R_base ho0) hb); have n6_ := Aside0.mk (Kd.R_lower (Kd.R_new' (Kd.R_new' (Kd.R_new' ho0 (Kd.R_lt q14_)) (Kd.R_lt q18_)) (Kd.R_lt q25_)) (below_size q4_)); have n7_ := Aside0.mk (blk_below (g := gb246) (o := .cells #[.slice A0_0 l0_0.length c0_0, .slice A0_1 l0_1.length c0_1, .slice A0_2 l0_2.length c0_2] 26 (0, 0)) q8_ hb); have n8_ := Aside0.mk (blk_below (g := gb258) (o := .cells #[.slice Ao142 t249.length co142, .slice Ao145 t252.length co145, .slice Ao146 t255.length co146] 26 (0, 0)) q22_ hb); have n9_ := Aside0.mk (below_step q4_ hb); clear HO251; clear HO254; clear HO257; clear HO261; clear HO265; clear HO269; clear BK246; clear BK258; clear HB; have HO251 := n0_; have HO254 := n1_; have HO257 := n2_; have HO261 := n3_; have HO265 := n4_; have HO269 := n5_; have HO273 := n6_; have BK246 := n7_; have BK258 := n8_; have HB := n9_; clear n0_ n1_ n2_ n3_ n4_ n5_ n6_ n7_ n8_ n9_; (try clear hb); (try clear hb2); (try clear hk); (try clear hi); (try clear ho0)))
     have n0_ := Aside0.mk (Kd.R_drew HO251.out)
     have n1_ := Aside0.mk (Kd.R_drew HO254.out)
     have n2_ := Aside0.mk (Kd.R_drew HO257.out)
     have n3_ := Aside0.mk (Kd.R_drew HO261.out)
     have n4_ := Aside0.mk (Kd.R_drew HO265.out)
     have n5_ := Aside0.mk (Kd.R_drew HO269.out)
     have n6_ := Aside0.mk (Kd.R_drew HO273.out)
     have n7_ := Aside0.mk (blk_drew BK246.out)
     have n8_ := Aside0.mk (blk_drew BK258.out)
     have n9_ := Aside0.mk (below_drew1 HB.out)
     clear HO251
     clear HO254
     clear HO257
     clear HO261
     clear HO265
     clear HO269
     clear HO273
     clear BK246
     clear BK258
     clear HB
     have HO251 := n0_
     have HO254 := n1_
     have HO257 := n2_
     have HO261 := n3_
     have HO265 := n4_
     have HO269 := n5_
     have HO273 := n6_
     have BK246 := n7_
     have BK258 := n8_
     have HB := n9_
     clear n0_ n1_ n2_ n3_ n4_ n5_ n6_ n7_ n8_ n9_
     refine start_ (n := 31) (S := fun w' => w'.cell? ⟨gb258, 0, none⟩ = some (.slice Ao142 t249.length co142) ∧ w'.cell? ⟨gb258, 1, none⟩ = some (.slice Ao145 t252.length co145) ∧ w'.cell? ⟨gb258, 2, none⟩ = some (.slice Ao146 t255.length co146) ∧ w'.cell? ⟨gb246, 0, none⟩ = some (.slice A0_0 l0_0.length c0_0) ∧ w'.cell? ⟨gb246, 1, none⟩ = some (.slice A0_1 l0_1.length c0_1) ∧ w'.cell? ⟨gb246, 2, none⟩ = some (.slice A0_2 l0_2.length c0_2)) (ds := []) #[false, false, false, false, false, false, false, false, false, false, false, false, false, false, false, false, false, false, false, false, false, false, false, false, false, false, false, false, false, false, false] q37_ rfl rfl ⟨(blk_cell BK258.out 0).trans rfl, (blk_cell BK258.out 1).trans rfl, (blk_cell BK258.out 2).trans rfl, (blk_cell BK246.out 0).trans rfl, (blk_cell BK246.out 1).trans rfl, (blk_cell BK246.out 2).trans rfl⟩ (fun hHeld => ?_); refine with_tabW retargetlaw04_BlastRuns.tab8 retargetlaw04_BlastRuns.bits8 (fun HT_ HW_ => ?_)
     generalize w153.drew = w154 at HO251 HO254 HO257 HO261 HO265 HO269 HO273 BK246 BK258 HB hHeld ⊢
     refine tz_ (i := 0) (N := some 53) (h := ?_)
     refine tz_ (i := 2) (N := some 55) (h := ?_)
     refine nz_ (i := 1) (N := some 54) (h := fun K hK => ?_)
     refine goes_ Try.func16 q37_ rfl #[.agg #[.slice Ao142 t249.length co142, .slice Ao145 t252.length co145, .slice Ao146 t255.length co146]] (by rfl) rfl rfl q2_ ?_
     with_reducible refine (blast_Check.calls kj3 _ _ t249 _ _ t252 _ _ t255 t275 _ ?side1 ?side2 ?side3 ?side4 ?side5 ?side6 A22.out).mono ?_
     (case side1 => repeat (first | exact (Kd.R_reads' HO251.out).2.2 | (with_reducible refine Kd.C_alloc ?_ _) | (with_reducible refine Kd.C_drewN ?_ _) | (with_reducible refine Kd.C_drew ?_)))
     (case side2 => exact (Kd.R_reads' HO251.out).2.1)
     (case side3 => repeat (first | exact (Kd.R_reads' HO254.out).2.2 | (with_reducible refine Kd.C_alloc ?_ _) | (with_reducible refine Kd.C_drewN ?_ _) | (with_reducible refine Kd.C_drew ?_)))
     (case side4 => exact (Kd.R_reads' HO254.out).2.1)
     (case side5 => repeat (first | exact (Kd.R_reads' HO257.out).2.2 | (with_reducible refine Kd.C_alloc ?_ _) | (with_reducible refine Kd.C_drewN ?_ _) | (with_reducible refine Kd.C_drew ?_)))
     (case side6 => exact (Kd.R_reads' HO257.out).2.1)
     rintro e w155 ⟨rfl, hb⟩
     refine ⟨_, rfl, ?_⟩
     have n0_ := Aside0.mk (Kd.R_below q21_ hb)
     have n1_ := Aside0.mk (Kd.R_below q20_ hb)
     have n2_ := Aside0.mk (Kd.R_below q19_ hb)
     have n3_ := Aside0.mk (Kd.R_below q14_ hb)
     have n4_ := Aside0.mk (Kd.R_below q18_ hb)
     have n5_ := Aside0.mk (Kd.R_below q25_ hb)
     have n6_ := Aside0.mk (Kd.R_below q46_ hb)
     have n7_ := Aside0.mk (blk_below (g := gb246) (o := .cells #[.slice A0_0 l0_0.length c0_0, .slice A0_1 l0_1.length c0_1, .slice A0_2 l0_2.length c0_2] 26 (0, 0)) q8_ hb)
     have n8_ := Aside0.mk (blk_below (g := gb258) (o := .cells #[.slice Ao142 t249.length co142, .slice Ao145 t252.length co145, .slice Ao146 t255.length co146] 26 (0, 0)) q22_ hb)
     have n9_ := Aside0.mk (below_step q4_ hb)
     clear HO251
     clear HO254
     clear HO257
     clear HO261
     clear HO265
     clear HO269
     clear HO273
     clear BK246
     clear BK258
     clear HB
     have HO251 := n0_
     have HO254 := n1_
     have HO257 := n2_
     have HO261 := n3_
     have HO265 := n4_
     have HO269 := n5_
     have HO273 := n6_
     have BK246 := n7_
     have BK258 := n8_
     have HB := n9_
     clear n0_ n1_ n2_ n3_ n4_ n5_ n6_ n7_ n8_ n9_
     (try clear hb)
     (try clear hb2)
     (try clear hk)
     (try clear hi)
     refine hK.out _ _ ⟨(blk_cell BK258.out 0).trans rfl, (blk_cell BK258.out 1).trans rfl, (blk_cell BK258.out 2).trans rfl, (blk_cell BK246.out 0).trans rfl, (blk_cell BK246.out 1).trans rfl, (blk_cell BK246.out 2).trans rfl⟩ (fun hHeld => ?_)
     clear hK K
     refine mz_ (some 54) (h := ?_)
     refine nz_ (i := 3) (N := some 56) (h := fun K hK => ?_)
     refine goes_ Try.func17 q37_ rfl #[.agg #[.slice A0_0 l0_0.length c0_0, .slice A0_1 l0_1.length c0_1, .slice A0_2 l0_2.length c0_2]] (by rfl) rfl rfl q2_ ?_
     with_reducible refine (retargetref04_Check.calls kj3 _ _ l0_0 _ _ l0_1 _ _ l0_2 t276 _ ?side1 ?side2 ?side3 ?side4 ?side5 ?side6 A23.out).mono ?_
     (case side1 => repeat (first | exact (Kd.C_below HR0_0.out HB.out) | (with_reducible refine Kd.C_alloc ?_ _) | (with_reducible refine Kd.C_drewN ?_ _) | (with_reducible refine Kd.C_drew ?_)))
     (case side2 => exact HC0_0.out)
     (case side3 => repeat (first | exact (Kd.C_below HR0_1.out HB.out) | (with_reducible refine Kd.C_alloc ?_ _) | (with_reducible refine Kd.C_drewN ?_ _) | (with_reducible refine Kd.C_drew ?_)))
     (case side4 => exact HC0_1.out)
     (case side5 => repeat (first | exact (Kd.C_below HR0_2.out HB.out) | (with_reducible refine Kd.C_alloc ?_ _) | (with_reducible refine Kd.C_drewN ?_ _) | (with_reducible refine Kd.C_drew ?_)))
     (case side6 => exact HC0_2.out)
     rintro e w156 ⟨rfl, hb⟩
     refine ⟨_, rfl, ?_⟩
     have n0_ := Aside0.mk (Kd.R_below q21_ hb)
     have n1_ := Aside0.mk (Kd.R_below q20_ hb)
     have n2_ := Aside0.mk (Kd.R_below q19_ hb)
     have n3_ := Aside0.mk (Kd.R_below q14_ hb)
     have n4_ := Aside0.mk (Kd.R_below q18_ hb)
     have n5_ := Aside0.mk (Kd.R_below q25_ hb)
     have n6_ := Aside0.mk (Kd.R_below q46_ hb)
     have n7_ := Aside0.mk (blk_below (g := gb246) (o := .cells #[.slice A0_0 l0_0.length c0_0, .slice A0_1 l0_1.length c0_1, .slice A0_2 l0_2.length c0_2] 26 (0, 0)) q8_ hb)
     have n8_ := Aside0.mk (blk_below (g := gb258) (o := .cells #[.slice Ao142 t249.length co142, .slice Ao145 t252.length co145, .slice Ao146 t255.length co146] 26 (0, 0)) q22_ hb)
     have n9_ := Aside0.mk (below_step q4_ hb)
     clear HO251
     clear HO254
     clear HO257
     clear HO261
     clear HO265
     clear HO269
     clear HO273
     clear BK246
     clear BK258
     clear HB
     have HO251 := n0_
     have HO254 := n1_
     have HO257 := n2_
     have HO261 := n3_
     have HO265 := n4_
     have HO269 := n5_
     have HO273 := n6_
     have BK246 := n7_
     have BK258 := n8_
     have HB := n9_
     clear n0_ n1_ n2_ n3_ n4_ n5_ n6_ n7_ n8_ n9_
     (try clear hb)
     (try clear hb2)
     (try clear hk)
     (try clear hi)
     refine hK.out _ _ ⟨(blk_cell BK258.out 0).trans rfl, (blk_cell BK258.out 1).trans rfl, (blk_cell BK258.out 2).trans rfl, (blk_cell BK246.out 0).trans rfl, (blk_cell BK246.out 1).trans rfl, (blk_cell BK246.out 2).trans rfl⟩ (fun hHeld => ?_)
     clear hK K
     refine mz_ (some 56) (h := ?_)
     refine pz_ (i := 4) (N := some 57) (h := ?_)
     refine pz_ (i := 5) (N := some 58) (h := ?_)
     refine oz_ (i := 6) (N := some 59) (h := ?_)
     refine oz_ (i := 7) (N := some 60) (h := ?_)
     refine oz_ (i := 8) (N := some 61) (h := ?_)
     refine pz_ (i := 9) (N := some 62) (h := ?_)
     refine pz_ (i := 10) (N := some 63) (h := ?_)
     refine oz_ (i := 11) (N := some 64) (h := ?_)
     refine oz_ (i := 12) (N := some 65) (h := ?_)
     refine oz_ (i := 13) (N := some 66) (h := ?_)
     refine pz_ (i := 14) (N := some 67) (h := ?_)
     refine pz_ (i := 15) (N := some 68) (h := ?_)
     refine oz_ (i := 16) (N := some 69) (h := ?_)
     refine oz_ (i := 17) (N := some 70) (h := ?_)
     refine oz_ (i := 18) (N := some 71) (h := ?_)
     refine pz_ (i := 19) (N := some 72) (h := ?_)
     refine pz_ (i := 20) (N := some 73) (h := ?_)
     refine oz_ (i := 21) (N := some 74) (h := ?_)
     refine oz_ (i := 22) (N := some 75) (h := ?_)
     refine oz_ (i := 23) (N := some 76) (h := ?_)
     refine pz_ (i := 24) (N := some 77) (h := ?_)
     refine pz_ (i := 25) (N := some 78) (h := ?_)
     refine oz_ (i := 26) (N := some 79) (h := ?_)
     refine oz_ (i := 27) (N := some 80) (h := ?_)
     refine oz_ (i := 28) (N := some 81) (h := ?_)
     refine pz_ (i := 29) (N := some 82) (h := ?_)
     refine pz_ (i := 30) (N := some 6) (h := ?_)
     refine done_ (done_of HT_.out q37_) ?_
     try go_wp2
     go_ret
     exact ⟨by first | rfl | (simp [errW_none, errW_some] <;> rfl) | (simp [*, errW_none, errW_some] <;> rfl), by repeat (first | (with_reducible first | exact HB.out | apply below_alloc | apply pw_below_drewN | apply below_drew1 | refine below_set ?_ GE246.out | refine below_set ?_ GE258.out) | exact HB.out)⟩

end Go.Proofs.Ytjapfakpfoeaiaa.MBlastRuns
