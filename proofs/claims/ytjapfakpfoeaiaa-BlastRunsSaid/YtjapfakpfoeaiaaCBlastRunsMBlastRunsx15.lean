/- Functions of the program as Lean functions, and of each a proof that the Go code comes to just its answers. Laid for this claim by wip/drive.py of this repo (our driver over the kit's printing program); no text of print.sh. No condition. -/
import Derived.Test.YtjapfakpfoeaiaaCBlastRunsMBlastRunsx0
import Derived.Test.YtjapfakpfoeaiaaCBlastRunsMBlastRunsx10
import Derived.Test.YtjapfakpfoeaiaaCBlastRunsMBlastRunsx14
namespace Go.Proofs.Ytjapfakpfoeaiaa.MBlastRuns
open Go.Proofs.Ytjapfakpfoeaiaa.Zed Go.RowKit Go.Proofs.YtjapfakpfoeaiaaW.PrintWords Go.Proofs.YtjapfakpfoeaiaaW.PrintLast Go.Proofs.YtjapfakpfoeaiaaW.PrintMore
attribute [local go_sem] max2_int min2_int max_two min_two max_three min_three max_four min_four   -- for this text's walks alone
set_option linter.unusedVariables false
set_option linter.unusedSimpArgs false

/-! ### retargetref02_CheckBound: function 28 -/
def retargetref02_CheckBound.l0 : Nat → List (S59) → Int → Option (Int)
 | 0, _, _ => none
 | k + 1, x0, x3 => if x3 < (x0.length : Int) then (if 0 ≤ x3 then ((retargetref02_Variable.f k ((rd_T59 x0 x3).f0)).bind fun t220 => (if t220 = true then ((retargetref01_Ok.f k ((rd_T59 x0 x3).f1) ((rd_T59 x0 x3).f2)).bind fun t223 => (if t223 = true then (if x3 > 0 then (if 0 ≤ (wrap64 (x3 - 1)) then (if (wrap64 (x3 - 1)) < (x0.length : Int) then (if ((Op.bytesLess (((rd_T59 x0 (wrap64 (x3 - 1))).f0).toList) (((rd_T59 x0 x3).f0).toList)) = true) then (retargetref02_CheckBound.l0 k x0 (wrap64 (x3 + 1))) else (some 8)) else (none)) else (none)) else (retargetref02_CheckBound.l0 k x0 (wrap64 (x3 + 1)))) else (some 8))) else (some 8))) else (none)) else (some 0)
def retargetref02_CheckBound.f (k : Nat) (l0 : List (S59)) : Option (Int) := if (l0.length : Int) > 1000 then (some 8) else (retargetref02_CheckBound.l0 k l0 0)
theorem retargetref02_CheckBound.mono_l : ∀ k, (∀ y0 y1, LeO (retargetref02_CheckBound.l0 k y0 y1) (retargetref02_CheckBound.l0 (k + 1) y0 y1))
 | 0 => fun _ _ r h => by simp [retargetref02_CheckBound.l0] at h
 | k + 1 => by
  have ih0 := retargetref02_CheckBound.mono_l k
  ·intro y0 y1
   unfold retargetref02_CheckBound.l0
   repeat' first
   | (with_reducible exact ih0 _ _)
   | (with_reducible exact retargetref01_Ok.mono _ _ _)
   | (with_reducible exact retargetref02_Variable.mono _ _)
   | (with_reducible exact LeO.refl _)
   | (with_reducible exact LeO.none _)
   | (with_reducible refine LeO.ite ?_ ?_)
   | (with_reducible refine LeO.bind ?_ (fun _ => ?_))
   | exact ih0 _ _
   | exact retargetref01_Ok.mono _ _ _
   | exact retargetref02_Variable.mono _ _
   | exact LeO.none _
   | refine LeO.ite ?_ ?_
   | refine LeO.bind ?_ (fun _ => ?_)
theorem retargetref02_CheckBound.mono : ∀ a0 k, LeO (retargetref02_CheckBound.f k a0) (retargetref02_CheckBound.f (k + 1) a0) := by
 intro a0 k
 have ih0 := retargetref02_CheckBound.mono_l k
 unfold retargetref02_CheckBound.f
 repeat' first
   | (with_reducible exact ih0 _ _)
   | (with_reducible exact retargetref01_Ok.mono _ _ _)
   | (with_reducible exact retargetref02_Variable.mono _ _)
   | (with_reducible exact LeO.refl _)
   | (with_reducible exact LeO.none _)
   | (with_reducible refine LeO.ite ?_ ?_)
   | (with_reducible refine LeO.bind ?_ (fun _ => ?_))
   | exact ih0 _ _
   | exact retargetref01_Ok.mono _ _ _
   | exact retargetref02_Variable.mono _ _
   | exact LeO.none _
   | refine LeO.ite ?_ ?_
   | refine LeO.bind ?_ (fun _ => ?_)
def retargetref02_CheckBound.T6 : Bool × List (List Nat × List Nat) := (true, [([], []), ([], []), ([0, 1], [0, 1]), ([2], [2]), ([3], [3]), ([4], [4]), ([5], [5]), ([6, 5], [6]), ([7], [7]), ([7], [7]), ([8, 9, 7], [7, 8, 9]), ([10, 7], [7, 10]), ([11, 7], [7, 11]), ([7], [7]), ([7], [7]), ([13, 14, 7], [7, 13, 14]), ([15, 7], [7, 15]), ([16, 7], [7, 16]), ([12, 17, 7, 7], [7, 12, 17]), ([18, 7], [7, 18]), ([7, 19], [7, 19]), ([20, 18], [20]), ([21], [21]), ([22, 21], [21, 22]), ([23, 21, 21], [21, 23]), ([24], [24]), ([24], [24]), ([25, 26, 24], [24, 25, 26]), ([27, 24], [24, 27]), ([28, 24], [24, 28]), ([24], [24]), ([24], [24]), ([31, 24], [24, 31]), ([30, 32, 24], [24, 30, 32]), ([33, 24], [24, 33]), ([34, 24], [24, 34]), ([29, 35, 24], [24, 29, 35]), ([24, 36, 21], [21, 24, 36]), ([21, 37], [21, 37])])
def retargetref02_CheckBound.B6 : List Nat := [0, 0, 3, 7, 15, 31, 63, 127, 255, 255, 1023, 2047, 4095, 255, 255, 24831, 57599, 123135, 262143, 524287, 1048575, 2097151, 4194303, 8388607, 16777215, 33554431, 33554431, 134217727, 268435455, 536870911, 33554431, 33554431, 2181038079, 7549747199, 16139681791, 33319550975, 68719476735, 137438953471, 274877906943]
theorem retargetref02_CheckBound.tab6 : rtab .any (opsOf Try.f28 6) = retargetref02_CheckBound.T6 := by kernel_rfl
theorem retargetref02_CheckBound.bits6 : waitsOk retargetref02_CheckBound.T6.2 retargetref02_CheckBound.B6 = true := by kernel_rfl
set_option maxHeartbeats 8000000 in
set_option maxRecDepth 100000 in
theorem retargetref02_CheckBound.calls (k : Nat) (A0 : Option Addr) (c0 : Nat) (l0 : List (S59)) (r : Int) (w : World) (hr0 : Kd.C k59 w A0 l0.length l0) (hc0 : l0.length ≤ c0) (h : retargetref02_CheckBound.f k l0 = some r) :
  Calls Try.prog 28 #[.slice A0 l0.length c0] w fun e w' => e = .returned (.int .i64 r) ∧ Below w.heap.size w w' := by
 have HR0 := Aside0.mk hr0
 have HC0 := Aside0.mk hc0
 clear hr0 hc0
 have HB := Aside0.mk (Below.refl w.heap.size w)
 have H : (if (l0.length : Int) > 1000 then (some 8) else (retargetref02_CheckBound.l0 k l0 0)) = some r := h
 clear h
 by_cases c2 : (l0.length : Int) > 1000
 ·rw [if_pos c2] at H
  have c2b0 : decide (1000 < (l0.length : Int)) = true := decide_eq_true c2
  have c2b1 : decide (1000 < l0.length) = true := decide_eq_true (by omega)
  clear c2
  obtain rfl := Option.some.inj H
  go_enter Try.func28, Try.ntmps28
  go_wp2
  go_ret
  exact ⟨by first | rfl | (simp [errW_none, errW_some] <;> rfl) | (simp [*, errW_none, errW_some] <;> rfl), by repeat (first | (with_reducible first | exact HB.out | apply below_alloc | apply pw_below_drewN | apply below_drew1) | exact HB.out)⟩
 ·rw [if_neg c2] at H
  have c2b0 : decide (1000 < (l0.length : Int)) = false := decide_eq_false c2
  have c2b1 : decide (1000 < l0.length) = false := decide_eq_false (by omega)
  clear c2
  have H' := Aside0.mk H
  clear H
  go_enter Try.func28, Try.ntmps28
  go_wp2
  go_loopg [3] k (fun kq v3 w' => ∃ (x3_1 : Int), v3 = .int .i64 x3_1 ∧ Aside0 (retargetref02_CheckBound.l0 kq l0 x3_1 = some r) ∧ Aside0 (kq ≤ k) ∧ Aside0 (Below w.heap.size w w'))
  case atStart => exact ⟨(0), q13_, H', ⟨Nat.le_refl _⟩, ⟨by repeat (first | (with_reducible first | exact HB.out | apply below_alloc | apply pw_below_drewN | apply below_drew1) | exact HB.out)⟩⟩
  case round =>
   clear H'
   try clear c2
   try clear c2b0
   try clear c2b1
   try clear p2
   obtain ⟨x3_1, rfl, HA, HK1, HB⟩ := hrel
   cases gk with
   | zero => exact absurd HA.out (by simp [retargetref02_CheckBound.l0])
   | succ k1 =>
    have H := HA.out
    clear HA
    simp only [retargetref02_CheckBound.l0] at H
    by_cases c3 : x3_1 < (l0.length : Int)
    ·rw [if_pos c3] at H
     have c3b0 : decide (x3_1 < (l0.length : Int)) = true := decide_eq_true c3
     clear c3
     by_cases c4 : 0 ≤ x3_1
     ·rw [if_pos c4] at H
      have c4b0 : decide (0 ≤ x3_1) = true := decide_eq_true c4
      clear c4
      replace H := Option.bind_eq_some_iff.mp H
      obtain ⟨t220, A50, H⟩ := H
      replace H : (if t220 = true then ((retargetref01_Ok.f k1 ((rd_T59 l0 x3_1).f1) ((rd_T59 l0 x3_1).f2)).bind fun t223 => (if t223 = true then (if x3_1 > 0 then (if 0 ≤ (wrap64 (x3_1 - 1)) then (if (wrap64 (x3_1 - 1)) < (l0.length : Int) then (if ((Op.bytesLess (((rd_T59 l0 (wrap64 (x3_1 - 1))).f0).toList) (((rd_T59 l0 x3_1).f0).toList)) = true) then (retargetref02_CheckBound.l0 k1 l0 (wrap64 (x3_1 + 1))) else (some 8)) else (none)) else (none)) else (retargetref02_CheckBound.l0 k1 l0 (wrap64 (x3_1 + 1)))) else (some 8))) else (some 8)) = some r := H
      have A5 := Aside0.mk A50
      clear A50
      by_cases c6 : t220 = true
      ·subst c6
       have H1 : ((retargetref01_Ok.f k1 ((rd_T59 l0 x3_1).f1) ((rd_T59 l0 x3_1).f2)).bind fun t223 => (if t223 = true then (if x3_1 > 0 then (if 0 ≤ (wrap64 (x3_1 - 1)) then (if (wrap64 (x3_1 - 1)) < (l0.length : Int) then (if ((Op.bytesLess (((rd_T59 l0 (wrap64 (x3_1 - 1))).f0).toList) (((rd_T59 l0 x3_1).f0).toList)) = true) then (retargetref02_CheckBound.l0 k1 l0 (wrap64 (x3_1 + 1))) else (some 8)) else (none)) else (none)) else (retargetref02_CheckBound.l0 k1 l0 (wrap64 (x3_1 + 1)))) else (some 8))) = some r := by rw [if_pos rfl] at H; exact H
       clear H
       have H := H1
       clear H1
       replace H := Option.bind_eq_some_iff.mp H
       obtain ⟨t223, A70, H⟩ := H
       replace H : (if t223 = true then (if x3_1 > 0 then (if 0 ≤ (wrap64 (x3_1 - 1)) then (if (wrap64 (x3_1 - 1)) < (l0.length : Int) then (if ((Op.bytesLess (((rd_T59 l0 (wrap64 (x3_1 - 1))).f0).toList) (((rd_T59 l0 x3_1).f0).toList)) = true) then (retargetref02_CheckBound.l0 k1 l0 (wrap64 (x3_1 + 1))) else (some 8)) else (none)) else (none)) else (retargetref02_CheckBound.l0 k1 l0 (wrap64 (x3_1 + 1)))) else (some 8)) = some r := H
       have A7 := Aside0.mk A70
       clear A70
       by_cases c8 : t223 = true
       ·subst c8
        have H1 : (if x3_1 > 0 then (if 0 ≤ (wrap64 (x3_1 - 1)) then (if (wrap64 (x3_1 - 1)) < (l0.length : Int) then (if ((Op.bytesLess (((rd_T59 l0 (wrap64 (x3_1 - 1))).f0).toList) (((rd_T59 l0 x3_1).f0).toList)) = true) then (retargetref02_CheckBound.l0 k1 l0 (wrap64 (x3_1 + 1))) else (some 8)) else (none)) else (none)) else (retargetref02_CheckBound.l0 k1 l0 (wrap64 (x3_1 + 1)))) = some r := by rw [if_pos rfl] at H; exact H
        clear H
        have H := H1
        clear H1
        by_cases c9 : x3_1 > 0
        ·rw [if_pos c9] at H
         have c9b0 : decide (0 < x3_1) = true := decide_eq_true c9
         clear c9
         obtain ⟨ji10, hji10⟩ : ∃ j_ : Int, (wrap64 (x3_1 - 1)) = j_ := ⟨_, rfl⟩
         replace H : (if 0 ≤ (ji10) then (if (ji10) < (l0.length : Int) then (if ((Op.bytesLess (((rd_T59 l0 (ji10)).f0).toList) (((rd_T59 l0 x3_1).f0).toList)) = true) then (retargetref02_CheckBound.l0 k1 l0 (wrap64 (x3_1 + 1))) else (some 8)) else (none)) else (none)) = some r := by first | (rw [hji10] at H; exact H) | (simp only [hji10] at H ⊢; exact H)
         (try rw [hji10] at A5)
         (try rw [hji10] at A7)
         have hji10w : (IntKind.i64.wrap (x3_1 - 1)) = ji10 := (i64_w _).trans hji10
         by_cases c11 : 0 ≤ (ji10)
         ·rw [if_pos c11] at H
          have c11b0 : decide (0 ≤ (ji10)) = true := decide_eq_true c11
          clear c11
          by_cases c12 : (ji10) < (l0.length : Int)
          ·rw [if_pos c12] at H
           have c12b0 : decide ((ji10) < (l0.length : Int)) = true := decide_eq_true c12
           clear c12
           by_cases c13 : ((Op.bytesLess (((rd_T59 l0 (ji10)).f0).toList) (((rd_T59 l0 x3_1).f0).toList)) = true)
           ·rw [if_pos c13] at H
            have c13b0 : (Op.bytesLess (((rd_T59 l0 (ji10)).f0).toList) (((rd_T59 l0 x3_1).f0).toList)) = true := c13
            clear c13
            have H' := Aside0.mk H
            clear H
            try go_wp2
            have n0_ := Aside0.mk (below_drew1 HB.out)
            clear HB
            have HB := n0_
            clear n0_
            have p219 : 0 ≤ (x3_1 : Int) := of_decide_eq_true q1_
            have q219 : x3_1 < (l0.length : Int) := of_decide_eq_true q1_
            obtain ⟨ad219, e219, hx219_0, hx219_1, hx219_2⟩ := at_T59 HR0.out x3_1 p219 q219
            have hw219_2 := hx219_2
            have hw219_1 := hx219_1
            have hw219_0 := hx219_0
            cases e219
            replace hx219_0 := (HB.out.cell (World.block_lt_of_cell? w _ hx219_0)).trans hx219_0
            replace hx219_1 := (HB.out.cell (World.block_lt_of_cell? w _ hx219_1)).trans hx219_1
            replace hx219_2 := (HB.out.cell (World.block_lt_of_cell? w _ hx219_2)).trans hx219_2
            replace p219 := eq_true p219
            replace q219 := eq_true q219
            have p221 : 0 ≤ (x3_1 : Int) := of_decide_eq_true q1_
            have q221 : x3_1 < (l0.length : Int) := of_decide_eq_true q1_
            obtain ⟨ad221, e221, hx221_0, hx221_1, hx221_2⟩ := at_T59 HR0.out x3_1 p221 q221
            have hw221_2 := hx221_2
            have hw221_1 := hx221_1
            have hw221_0 := hx221_0
            obtain rfl : ad219 = ad221 := (by injection e221)
            replace hx221_0 := (HB.out.cell (World.block_lt_of_cell? w _ hx221_0)).trans hx221_0
            replace hx221_1 := (HB.out.cell (World.block_lt_of_cell? w _ hx221_1)).trans hx221_1
            replace hx221_2 := (HB.out.cell (World.block_lt_of_cell? w _ hx221_2)).trans hx221_2
            replace p221 := eq_true p221
            replace q221 := eq_true q221
            have p222 : 0 ≤ (x3_1 : Int) := of_decide_eq_true q1_
            have q222 : x3_1 < (l0.length : Int) := of_decide_eq_true q1_
            obtain ⟨ad222, e222, hx222_0, hx222_1, hx222_2⟩ := at_T59 HR0.out x3_1 p222 q222
            have hw222_2 := hx222_2
            have hw222_1 := hx222_1
            have hw222_0 := hx222_0
            obtain rfl : ad219 = ad222 := (by injection e222)
            replace hx222_0 := (HB.out.cell (World.block_lt_of_cell? w _ hx222_0)).trans hx222_0
            replace hx222_1 := (HB.out.cell (World.block_lt_of_cell? w _ hx222_1)).trans hx222_1
            replace hx222_2 := (HB.out.cell (World.block_lt_of_cell? w _ hx222_2)).trans hx222_2
            replace p222 := eq_true p222
            replace q222 := eq_true q222
            have p224 : 0 ≤ (x3_1 : Int) := of_decide_eq_true q1_
            have q224 : x3_1 < (l0.length : Int) := of_decide_eq_true q1_
            obtain ⟨ad224, e224, hx224_0, hx224_1, hx224_2⟩ := at_T59 HR0.out x3_1 p224 q224
            have hw224_2 := hx224_2
            have hw224_1 := hx224_1
            have hw224_0 := hx224_0
            obtain rfl : ad219 = ad224 := (by injection e224)
            replace hx224_0 := (HB.out.cell (World.block_lt_of_cell? w _ hx224_0)).trans hx224_0
            replace hx224_1 := (HB.out.cell (World.block_lt_of_cell? w _ hx224_1)).trans hx224_1
            replace hx224_2 := (HB.out.cell (World.block_lt_of_cell? w _ hx224_2)).trans hx224_2
            replace p224 := eq_true p224
            replace q224 := eq_true q224
            have p225 : 0 ≤ ((ji10) : Int) := of_decide_eq_true q1_
            have q225 : (ji10) < (l0.length : Int) := of_decide_eq_true q1_
            obtain ⟨ad225, e225, hx225_0, hx225_1, hx225_2⟩ := at_T59 HR0.out (ji10) p225 q225
            have hw225_2 := hx225_2
            have hw225_1 := hx225_1
            have hw225_0 := hx225_0
            obtain rfl : ad219 = ad225 := (by injection e225)
            replace hx225_0 := (HB.out.cell (World.block_lt_of_cell? w _ hx225_0)).trans hx225_0
            replace hx225_1 := (HB.out.cell (World.block_lt_of_cell? w _ hx225_1)).trans hx225_1
            replace hx225_2 := (HB.out.cell (World.block_lt_of_cell? w _ hx225_2)).trans hx225_2
            replace p225 := eq_true p225
            replace q225 := eq_true q225
            refine start_ (n := 39) (S := fun w' => w'.cell? (ad219.add ((x3_1).toNat * 3)) = some (.string ((rd_T59 l0 x3_1).f0)) ∧ w'.cell? ⟨(ad219.add ((x3_1).toNat * 3)).block, (ad219.add ((x3_1).toNat * 3)).off + 1, none⟩ = some (.int .i64 ((rd_T59 l0 x3_1).f1)) ∧ w'.cell? ⟨(ad219.add ((x3_1).toNat * 3)).block, (ad219.add ((x3_1).toNat * 3)).off + 2, none⟩ = some (.int .u64 ((rd_T59 l0 x3_1).f2)) ∧ w'.cell? (ad219.add ((x3_1).toNat * 3)) = some (.string ((rd_T59 l0 x3_1).f0)) ∧ w'.cell? ⟨(ad219.add ((x3_1).toNat * 3)).block, (ad219.add ((x3_1).toNat * 3)).off + 1, none⟩ = some (.int .i64 ((rd_T59 l0 x3_1).f1)) ∧ w'.cell? ⟨(ad219.add ((x3_1).toNat * 3)).block, (ad219.add ((x3_1).toNat * 3)).off + 2, none⟩ = some (.int .u64 ((rd_T59 l0 x3_1).f2)) ∧ w'.cell? (ad219.add ((x3_1).toNat * 3)) = some (.string ((rd_T59 l0 x3_1).f0)) ∧ w'.cell? ⟨(ad219.add ((x3_1).toNat * 3)).block, (ad219.add ((x3_1).toNat * 3)).off + 1, none⟩ = some (.int .i64 ((rd_T59 l0 x3_1).f1)) ∧ w'.cell? ⟨(ad219.add ((x3_1).toNat * 3)).block, (ad219.add ((x3_1).toNat * 3)).off + 2, none⟩ = some (.int .u64 ((rd_T59 l0 x3_1).f2)) ∧ w'.cell? (ad219.add ((x3_1).toNat * 3)) = some (.string ((rd_T59 l0 x3_1).f0)) ∧ w'.cell? ⟨(ad219.add ((x3_1).toNat * 3)).block, (ad219.add ((x3_1).toNat * 3)).off + 1, none⟩ = some (.int .i64 ((rd_T59 l0 x3_1).f1)) ∧ w'.cell? ⟨(ad219.add ((x3_1).toNat * 3)).block, (ad219.add ((x3_1).toNat * 3)).off + 2, none⟩ = some (.int .u64 ((rd_T59 l0 x3_1).f2)) ∧ w'.cell? (ad219.add (((ji10)).toNat * 3)) = some (.string ((rd_T59 l0 (ji10)).f0)) ∧ w'.cell? ⟨(ad219.add (((ji10)).toNat * 3)).block, (ad219.add (((ji10)).toNat * 3)).off + 1, none⟩ = some (.int .i64 ((rd_T59 l0 (ji10)).f1)) ∧ w'.cell? ⟨(ad219.add (((ji10)).toNat * 3)).block, (ad219.add (((ji10)).toNat * 3)).off + 2, none⟩ = some (.int .u64 ((rd_T59 l0 (ji10)).f2))) (ds := []) #[false, false, false, false, false, false, false, false, false, false, false, false, false, false, false, false, false, false, false, false, false, false, false, false, false, false, false, false, false, false, false, false, false, false, false, false, false, false, false] q37_ rfl rfl ⟨((HB.out.cell (World.block_lt_of_cell? w _ hw219_0)).trans hw219_0), ((HB.out.cell (World.block_lt_of_cell? w _ hw219_1)).trans hw219_1), ((HB.out.cell (World.block_lt_of_cell? w _ hw219_2)).trans hw219_2), ((HB.out.cell (World.block_lt_of_cell? w _ hw221_0)).trans hw221_0), ((HB.out.cell (World.block_lt_of_cell? w _ hw221_1)).trans hw221_1), ((HB.out.cell (World.block_lt_of_cell? w _ hw221_2)).trans hw221_2), ((HB.out.cell (World.block_lt_of_cell? w _ hw222_0)).trans hw222_0), ((HB.out.cell (World.block_lt_of_cell? w _ hw222_1)).trans hw222_1), ((HB.out.cell (World.block_lt_of_cell? w _ hw222_2)).trans hw222_2), ((HB.out.cell (World.block_lt_of_cell? w _ hw224_0)).trans hw224_0), ((HB.out.cell (World.block_lt_of_cell? w _ hw224_1)).trans hw224_1), ((HB.out.cell (World.block_lt_of_cell? w _ hw224_2)).trans hw224_2), ((HB.out.cell (World.block_lt_of_cell? w _ hw225_0)).trans hw225_0), ((HB.out.cell (World.block_lt_of_cell? w _ hw225_1)).trans hw225_1), ((HB.out.cell (World.block_lt_of_cell? w _ hw225_2)).trans hw225_2)⟩ (fun hHeld => ?_); refine with_tabW retargetref02_CheckBound.tab6 retargetref02_CheckBound.bits6 (fun HT_ HW_ => ?_)
            generalize wr.drew = w14 at HB hx219_0 hx219_1 hx219_2 hx221_0 hx221_1 hx221_2 hx222_0 hx222_1 hx222_2 hx224_0 hx224_1 hx224_2 hx225_0 hx225_1 hx225_2 hHeld ⊢
            refine pz_ (i := 0) (N := some 13) (h := ?_)
            refine pz_ (i := 1) (N := some 14) (h := ?_)
            refine pz_ (i := 2) (N := some 15) (h := ?_)
            refine pz_ (i := 3) (N := some 16) (h := ?_)
            refine tz_ (i := 4) (N := some 17) (h := ?_)
            refine nz_ (i := 5) (N := some 18) (h := fun K hK => ?_)
            refine goes_ Try.func33 q37_ rfl #[.string ((rd_T59 l0 x3_1).f0)] (by rfl) rfl rfl q2_ ?_
            with_reducible refine (retargetref02_Variable.calls k1 ((rd_T59 l0 x3_1).f0) true _ A5.out).mono ?_
            rintro e w' ⟨rfl, ⟨nd, rfl⟩⟩
            refine ⟨_, rfl, ?_⟩
            refine hK.out _ _ ⟨((HB.out.cell (World.block_lt_of_cell? w _ hw219_0)).trans hw219_0), ((HB.out.cell (World.block_lt_of_cell? w _ hw219_1)).trans hw219_1), ((HB.out.cell (World.block_lt_of_cell? w _ hw219_2)).trans hw219_2), ((HB.out.cell (World.block_lt_of_cell? w _ hw221_0)).trans hw221_0), ((HB.out.cell (World.block_lt_of_cell? w _ hw221_1)).trans hw221_1), ((HB.out.cell (World.block_lt_of_cell? w _ hw221_2)).trans hw221_2), ((HB.out.cell (World.block_lt_of_cell? w _ hw222_0)).trans hw222_0), ((HB.out.cell (World.block_lt_of_cell? w _ hw222_1)).trans hw222_1), ((HB.out.cell (World.block_lt_of_cell? w _ hw222_2)).trans hw222_2), ((HB.out.cell (World.block_lt_of_cell? w _ hw224_0)).trans hw224_0), ((HB.out.cell (World.block_lt_of_cell? w _ hw224_1)).trans hw224_1), ((HB.out.cell (World.block_lt_of_cell? w _ hw224_2)).trans hw224_2), ((HB.out.cell (World.block_lt_of_cell? w _ hw225_0)).trans hw225_0), ((HB.out.cell (World.block_lt_of_cell? w _ hw225_1)).trans hw225_1), ((HB.out.cell (World.block_lt_of_cell? w _ hw225_2)).trans hw225_2)⟩ (fun hHeld => ?_)
            clear hK K
            refine mz_ (some 18) (h := ?_)
            refine pz_ (i := 6) (N := some 19) (h := ?_)
            refine pz_ (i := 7) (N := some 20) (h := ?_)
            refine pz_ (i := 8) (N := some 21) (h := ?_)
            refine pz_ (i := 9) (N := some 22) (h := ?_)
            refine pz_ (i := 10) (N := some 23) (h := ?_)
            refine pz_ (i := 11) (N := some 24) (h := ?_)
            refine pz_ (i := 13) (N := some 26) (h := ?_)
            refine pz_ (i := 14) (N := some 27) (h := ?_)
            refine pz_ (i := 15) (N := some 28) (h := ?_)
            refine pz_ (i := 16) (N := some 29) (h := ?_)
            refine tz_ (i := 12) (N := some 25) (h := ?_)
            refine tz_ (i := 17) (N := some 30) (h := ?_)
            refine nz_ (i := 18) (N := some 31) (h := fun K hK => ?_)
            refine goes_ Try.func37 q37_ rfl #[.int .i64 ((rd_T59 l0 x3_1).f1), .int .u64 ((rd_T59 l0 x3_1).f2)] (by rfl) rfl rfl q2_ ?_
            with_reducible refine (retargetref01_Ok.calls k1 ((rd_T59 l0 x3_1).f1) ((rd_T59 l0 x3_1).f2) true _ A7.out).mono ?_
            rintro e w' ⟨rfl, ⟨nd, rfl⟩⟩
            refine ⟨_, rfl, ?_⟩
            refine hK.out _ _ ⟨((HB.out.cell (World.block_lt_of_cell? w _ hw219_0)).trans hw219_0), ((HB.out.cell (World.block_lt_of_cell? w _ hw219_1)).trans hw219_1), ((HB.out.cell (World.block_lt_of_cell? w _ hw219_2)).trans hw219_2), ((HB.out.cell (World.block_lt_of_cell? w _ hw221_0)).trans hw221_0), ((HB.out.cell (World.block_lt_of_cell? w _ hw221_1)).trans hw221_1), ((HB.out.cell (World.block_lt_of_cell? w _ hw221_2)).trans hw221_2), ((HB.out.cell (World.block_lt_of_cell? w _ hw222_0)).trans hw222_0), ((HB.out.cell (World.block_lt_of_cell? w _ hw222_1)).trans hw222_1), ((HB.out.cell (World.block_lt_of_cell? w _ hw222_2)).trans hw222_2), ((HB.out.cell (World.block_lt_of_cell? w _ hw224_0)).trans hw224_0), ((HB.out.cell (World.block_lt_of_cell? w _ hw224_1)).trans hw224_1), ((HB.out.cell (World.block_lt_of_cell? w _ hw224_2)).trans hw224_2), ((HB.out.cell (World.block_lt_of_cell? w _ hw225_0)).trans hw225_0), ((HB.out.cell (World.block_lt_of_cell? w _ hw225_1)).trans hw225_1), ((HB.out.cell (World.block_lt_of_cell? w _ hw225_2)).trans hw225_2)⟩ (fun hHeld => ?_)
            clear hK K
            refine mz_ (some 31) (h := ?_)
            refine pz_ (i := 19) (N := some 32) (h := ?_)
            refine pz_ (i := 20) (N := some 33) (h := ?_)
            refine pz_ (i := 21) (N := some 34) (h := ?_)
            refine pz_ (i := 22) (N := some 35) (h := ?_)
            refine pz_ (i := 23) (N := some 36) (h := ?_)
            refine pz_ (i := 24) (N := some 37) (h := ?_)
            refine pz_ (i := 25) (N := some 38) (h := ?_)
            refine pz_ (i := 26) (N := some 39) (h := ?_)
            refine pz_ (i := 27) (N := some 40) (h := ?_)
            refine pz_ (i := 28) (N := some 41) (h := ?_)
            refine pz_ (i := 30) (N := some 43) (h := ?_)
            refine pz_ (i := 31) (N := some 44) (h := ?_)
            refine pz_ (i := 32) (N := some 45) (h := ?_)
            refine pz_ (i := 33) (N := some 46) (h := ?_)
            refine pz_ (i := 34) (N := some 47) (h := ?_)
            refine tz_ (i := 29) (N := some 42) (h := ?_)
            refine tz_ (i := 35) (N := some 48) (h := ?_)
            refine pz_ (i := 36) (N := some 49) (h := ?_)
            refine pz_ (i := 37) (N := some 50) (h := ?_)
            refine pz_ (i := 38) (N := some 51) (h := ?_)
            refine done_ (done_of HT_.out q37_) ?_
            try go_wp2
            go_roundg k1
            case measure => have := HK1.out; omega
            case rel => exact ⟨(wrap64 (x3_1 + 1)), q13_, H', ⟨by have := HK1.out; omega⟩, ⟨by repeat (first | (with_reducible first | exact HB.out | apply below_alloc | apply pw_below_drewN | apply below_drew1) | exact HB.out)⟩⟩
           ·rw [if_neg c13] at H
            have c13b0 : (Op.bytesLess (((rd_T59 l0 (ji10)).f0).toList) (((rd_T59 l0 x3_1).f0).toList)) = false := by simpa using c13
            clear c13
            obtain rfl := Option.some.inj H
            try go_wp2
            have n0_ := Aside0.mk (below_drew1 HB.out)
            clear HB
            have HB := n0_
            clear n0_
            have p219 : 0 ≤ (x3_1 : Int) := of_decide_eq_true q1_
            have q219 : x3_1 < (l0.length : Int) := of_decide_eq_true q1_
            obtain ⟨ad219, e219, hx219_0, hx219_1, hx219_2⟩ := at_T59 HR0.out x3_1 p219 q219
            have hw219_2 := hx219_2
            have hw219_1 := hx219_1
            have hw219_0 := hx219_0
            cases e219
            replace hx219_0 := (HB.out.cell (World.block_lt_of_cell? w _ hx219_0)).trans hx219_0
            replace hx219_1 := (HB.out.cell (World.block_lt_of_cell? w _ hx219_1)).trans hx219_1
            replace hx219_2 := (HB.out.cell (World.block_lt_of_cell? w _ hx219_2)).trans hx219_2
            replace p219 := eq_true p219
            replace q219 := eq_true q219
            have p221 : 0 ≤ (x3_1 : Int) := of_decide_eq_true q1_
            have q221 : x3_1 < (l0.length : Int) := of_decide_eq_true q1_
            obtain ⟨ad221, e221, hx221_0, hx221_1, hx221_2⟩ := at_T59 HR0.out x3_1 p221 q221
            have hw221_2 := hx221_2
            have hw221_1 := hx221_1
            have hw221_0 := hx221_0
            obtain rfl : ad219 = ad221 := (by injection e221)
            replace hx221_0 := (HB.out.cell (World.block_lt_of_cell? w _ hx221_0)).trans hx221_0
            replace hx221_1 := (HB.out.cell (World.block_lt_of_cell? w _ hx221_1)).trans hx221_1
            replace hx221_2 := (HB.out.cell (World.block_lt_of_cell? w _ hx221_2)).trans hx221_2
            replace p221 := eq_true p221
            replace q221 := eq_true q221
            have p222 : 0 ≤ (x3_1 : Int) := of_decide_eq_true q1_
            have q222 : x3_1 < (l0.length : Int) := of_decide_eq_true q1_
            obtain ⟨ad222, e222, hx222_0, hx222_1, hx222_2⟩ := at_T59 HR0.out x3_1 p222 q222
            have hw222_2 := hx222_2
            have hw222_1 := hx222_1
            have hw222_0 := hx222_0
            obtain rfl : ad219 = ad222 := (by injection e222)
            replace hx222_0 := (HB.out.cell (World.block_lt_of_cell? w _ hx222_0)).trans hx222_0
            replace hx222_1 := (HB.out.cell (World.block_lt_of_cell? w _ hx222_1)).trans hx222_1
            replace hx222_2 := (HB.out.cell (World.block_lt_of_cell? w _ hx222_2)).trans hx222_2
            replace p222 := eq_true p222
            replace q222 := eq_true q222
            have p224 : 0 ≤ (x3_1 : Int) := of_decide_eq_true q1_
            have q224 : x3_1 < (l0.length : Int) := of_decide_eq_true q1_
            obtain ⟨ad224, e224, hx224_0, hx224_1, hx224_2⟩ := at_T59 HR0.out x3_1 p224 q224
            have hw224_2 := hx224_2
            have hw224_1 := hx224_1
            have hw224_0 := hx224_0
            obtain rfl : ad219 = ad224 := (by injection e224)
            replace hx224_0 := (HB.out.cell (World.block_lt_of_cell? w _ hx224_0)).trans hx224_0
            replace hx224_1 := (HB.out.cell (World.block_lt_of_cell? w _ hx224_1)).trans hx224_1
            replace hx224_2 := (HB.out.cell (World.block_lt_of_cell? w _ hx224_2)).trans hx224_2
            replace p224 := eq_true p224
            replace q224 := eq_true q224
            have p225 : 0 ≤ ((ji10) : Int) := of_decide_eq_true q1_
            have q225 : (ji10) < (l0.length : Int) := of_decide_eq_true q1_
            obtain ⟨ad225, e225, hx225_0, hx225_1, hx225_2⟩ := at_T59 HR0.out (ji10) p225 q225
            have hw225_2 := hx225_2
            have hw225_1 := hx225_1
            have hw225_0 := hx225_0
            obtain rfl : ad219 = ad225 := (by injection e225)
            replace hx225_0 := (HB.out.cell (World.block_lt_of_cell? w _ hx225_0)).trans hx225_0
            replace hx225_1 := (HB.out.cell (World.block_lt_of_cell? w _ hx225_1)).trans hx225_1
            replace hx225_2 := (HB.out.cell (World.block_lt_of_cell? w _ hx225_2)).trans hx225_2
            replace p225 := eq_true p225
            replace q225 := eq_true q225
            refine start_ (n := 39) (S := fun w' => w'.cell? (ad219.add ((x3_1).toNat * 3)) = some (.string ((rd_T59 l0 x3_1).f0)) ∧ w'.cell? ⟨(ad219.add ((x3_1).toNat * 3)).block, (ad219.add ((x3_1).toNat * 3)).off + 1, none⟩ = some (.int .i64 ((rd_T59 l0 x3_1).f1)) ∧ w'.cell? ⟨(ad219.add ((x3_1).toNat * 3)).block, (ad219.add ((x3_1).toNat * 3)).off + 2, none⟩ = some (.int .u64 ((rd_T59 l0 x3_1).f2)) ∧ w'.cell? (ad219.add ((x3_1).toNat * 3)) = some (.string ((rd_T59 l0 x3_1).f0)) ∧ w'.cell? ⟨(ad219.add ((x3_1).toNat * 3)).block, (ad219.add ((x3_1).toNat * 3)).off + 1, none⟩ = some (.int .i64 ((rd_T59 l0 x3_1).f1)) ∧ w'.cell? ⟨(ad219.add ((x3_1).toNat * 3)).block, (ad219.add ((x3_1).toNat * 3)).off + 2, none⟩ = some (.int .u64 ((rd_T59 l0 x3_1).f2)) ∧ w'.cell? (ad219.add ((x3_1).toNat * 3)) = some (.string ((rd_T59 l0 x3_1).f0)) ∧ w'.cell? ⟨(ad219.add ((x3_1).toNat * 3)).block, (ad219.add ((x3_1).toNat * 3)).off + 1, none⟩ = some (.int .i64 ((rd_T59 l0 x3_1).f1)) ∧ w'.cell? ⟨(ad219.add ((x3_1).toNat * 3)).block, (ad219.add ((x3_1).toNat * 3)).off + 2, none⟩ = some (.int .u64 ((rd_T59 l0 x3_1).f2)) ∧ w'.cell? (ad219.add ((x3_1).toNat * 3)) = some (.string ((rd_T59 l0 x3_1).f0)) ∧ w'.cell? ⟨(ad219.add ((x3_1).toNat * 3)).block, (ad219.add ((x3_1).toNat * 3)).off + 1, none⟩ = some (.int .i64 ((rd_T59 l0 x3_1).f1)) ∧ w'.cell? ⟨(ad219.add ((x3_1).toNat * 3)).block, (ad219.add ((x3_1).toNat * 3)).off + 2, none⟩ = some (.int .u64 ((rd_T59 l0 x3_1).f2)) ∧ w'.cell? (ad219.add (((ji10)).toNat * 3)) = some (.string ((rd_T59 l0 (ji10)).f0)) ∧ w'.cell? ⟨(ad219.add (((ji10)).toNat * 3)).block, (ad219.add (((ji10)).toNat * 3)).off + 1, none⟩ = some (.int .i64 ((rd_T59 l0 (ji10)).f1)) ∧ w'.cell? ⟨(ad219.add (((ji10)).toNat * 3)).block, (ad219.add (((ji10)).toNat * 3)).off + 2, none⟩ = some (.int .u64 ((rd_T59 l0 (ji10)).f2))) (ds := []) #[false, false, false, false, false, false, false, false, false, false, false, false, false, false, false, false, false, false, false, false, false, false, false, false, false, false, false, false, false, false, false, false, false, false, false, false, false, false, false] q37_ rfl rfl ⟨((HB.out.cell (World.block_lt_of_cell? w _ hw219_0)).trans hw219_0), ((HB.out.cell (World.block_lt_of_cell? w _ hw219_1)).trans hw219_1), ((HB.out.cell (World.block_lt_of_cell? w _ hw219_2)).trans hw219_2), ((HB.out.cell (World.block_lt_of_cell? w _ hw221_0)).trans hw221_0), ((HB.out.cell (World.block_lt_of_cell? w _ hw221_1)).trans hw221_1), ((HB.out.cell (World.block_lt_of_cell? w _ hw221_2)).trans hw221_2), ((HB.out.cell (World.block_lt_of_cell? w _ hw222_0)).trans hw222_0), ((HB.out.cell (World.block_lt_of_cell? w _ hw222_1)).trans hw222_1), ((HB.out.cell (World.block_lt_of_cell? w _ hw222_2)).trans hw222_2), ((HB.out.cell (World.block_lt_of_cell? w _ hw224_0)).trans hw224_0), ((HB.out.cell (World.block_lt_of_cell? w _ hw224_1)).trans hw224_1), ((HB.out.cell (World.block_lt_of_cell? w _ hw224_2)).trans hw224_2), ((HB.out.cell (World.block_lt_of_cell? w _ hw225_0)).trans hw225_0), ((HB.out.cell (World.block_lt_of_cell? w _ hw225_1)).trans hw225_1), ((HB.out.cell (World.block_lt_of_cell? w _ hw225_2)).trans hw225_2)⟩ (fun hHeld => ?_); refine with_tabW retargetref02_CheckBound.tab6 retargetref02_CheckBound.bits6 (fun HT_ HW_ => ?_)
            generalize wr.drew = w15 at HB hx219_0 hx219_1 hx219_2 hx221_0 hx221_1 hx221_2 hx222_0 hx222_1 hx222_2 hx224_0 hx224_1 hx224_2 hx225_0 hx225_1 hx225_2 hHeld ⊢
            refine pz_ (i := 0) (N := some 13) (h := ?_)
            refine pz_ (i := 1) (N := some 14) (h := ?_)
            refine pz_ (i := 2) (N := some 15) (h := ?_)
            refine pz_ (i := 3) (N := some 16) (h := ?_)
            refine tz_ (i := 4) (N := some 17) (h := ?_)
            refine nz_ (i := 5) (N := some 18) (h := fun K hK => ?_)
            refine goes_ Try.func33 q37_ rfl #[.string ((rd_T59 l0 x3_1).f0)] (by rfl) rfl rfl q2_ ?_
            with_reducible refine (retargetref02_Variable.calls k1 ((rd_T59 l0 x3_1).f0) true _ A5.out).mono ?_
            rintro e w' ⟨rfl, ⟨nd, rfl⟩⟩
            refine ⟨_, rfl, ?_⟩
            refine hK.out _ _ ⟨((HB.out.cell (World.block_lt_of_cell? w _ hw219_0)).trans hw219_0), ((HB.out.cell (World.block_lt_of_cell? w _ hw219_1)).trans hw219_1), ((HB.out.cell (World.block_lt_of_cell? w _ hw219_2)).trans hw219_2), ((HB.out.cell (World.block_lt_of_cell? w _ hw221_0)).trans hw221_0), ((HB.out.cell (World.block_lt_of_cell? w _ hw221_1)).trans hw221_1), ((HB.out.cell (World.block_lt_of_cell? w _ hw221_2)).trans hw221_2), ((HB.out.cell (World.block_lt_of_cell? w _ hw222_0)).trans hw222_0), ((HB.out.cell (World.block_lt_of_cell? w _ hw222_1)).trans hw222_1), ((HB.out.cell (World.block_lt_of_cell? w _ hw222_2)).trans hw222_2), ((HB.out.cell (World.block_lt_of_cell? w _ hw224_0)).trans hw224_0), ((HB.out.cell (World.block_lt_of_cell? w _ hw224_1)).trans hw224_1), ((HB.out.cell (World.block_lt_of_cell? w _ hw224_2)).trans hw224_2), ((HB.out.cell (World.block_lt_of_cell? w _ hw225_0)).trans hw225_0), ((HB.out.cell (World.block_lt_of_cell? w _ hw225_1)).trans hw225_1), ((HB.out.cell (World.block_lt_of_cell? w _ hw225_2)).trans hw225_2)⟩ (fun hHeld => ?_)
            clear hK K
            refine mz_ (some 18) (h := ?_)
            refine pz_ (i := 6) (N := some 19) (h := ?_)
            refine pz_ (i := 7) (N := some 20) (h := ?_)
            refine pz_ (i := 8) (N := some 21) (h := ?_)
            refine pz_ (i := 9) (N := some 22) (h := ?_)
            refine pz_ (i := 10) (N := some 23) (h := ?_)
            refine pz_ (i := 11) (N := some 24) (h := ?_)
            refine pz_ (i := 13) (N := some 26) (h := ?_)
            refine pz_ (i := 14) (N := some 27) (h := ?_)
            refine pz_ (i := 15) (N := some 28) (h := ?_)
            refine pz_ (i := 16) (N := some 29) (h := ?_)
            refine tz_ (i := 12) (N := some 25) (h := ?_)
            refine tz_ (i := 17) (N := some 30) (h := ?_)
            refine nz_ (i := 18) (N := some 31) (h := fun K hK => ?_)
            refine goes_ Try.func37 q37_ rfl #[.int .i64 ((rd_T59 l0 x3_1).f1), .int .u64 ((rd_T59 l0 x3_1).f2)] (by rfl) rfl rfl q2_ ?_
            with_reducible refine (retargetref01_Ok.calls k1 ((rd_T59 l0 x3_1).f1) ((rd_T59 l0 x3_1).f2) true _ A7.out).mono ?_
            rintro e w' ⟨rfl, ⟨nd, rfl⟩⟩
            refine ⟨_, rfl, ?_⟩
            refine hK.out _ _ ⟨((HB.out.cell (World.block_lt_of_cell? w _ hw219_0)).trans hw219_0), ((HB.out.cell (World.block_lt_of_cell? w _ hw219_1)).trans hw219_1), ((HB.out.cell (World.block_lt_of_cell? w _ hw219_2)).trans hw219_2), ((HB.out.cell (World.block_lt_of_cell? w _ hw221_0)).trans hw221_0), ((HB.out.cell (World.block_lt_of_cell? w _ hw221_1)).trans hw221_1), ((HB.out.cell (World.block_lt_of_cell? w _ hw221_2)).trans hw221_2), ((HB.out.cell (World.block_lt_of_cell? w _ hw222_0)).trans hw222_0), ((HB.out.cell (World.block_lt_of_cell? w _ hw222_1)).trans hw222_1), ((HB.out.cell (World.block_lt_of_cell? w _ hw222_2)).trans hw222_2), ((HB.out.cell (World.block_lt_of_cell? w _ hw224_0)).trans hw224_0), ((HB.out.cell (World.block_lt_of_cell? w _ hw224_1)).trans hw224_1), ((HB.out.cell (World.block_lt_of_cell? w _ hw224_2)).trans hw224_2), ((HB.out.cell (World.block_lt_of_cell? w _ hw225_0)).trans hw225_0), ((HB.out.cell (World.block_lt_of_cell? w _ hw225_1)).trans hw225_1), ((HB.out.cell (World.block_lt_of_cell? w _ hw225_2)).trans hw225_2)⟩ (fun hHeld => ?_)
            clear hK K
            refine mz_ (some 31) (h := ?_)
            refine pz_ (i := 19) (N := some 32) (h := ?_)
            refine pz_ (i := 20) (N := some 33) (h := ?_)
            refine pz_ (i := 21) (N := some 34) (h := ?_)
            refine pz_ (i := 22) (N := some 35) (h := ?_)
            refine pz_ (i := 23) (N := some 36) (h := ?_)
            refine pz_ (i := 24) (N := some 37) (h := ?_)
            refine pz_ (i := 25) (N := some 38) (h := ?_)
            refine pz_ (i := 26) (N := some 39) (h := ?_)
            refine pz_ (i := 27) (N := some 40) (h := ?_)
            refine pz_ (i := 28) (N := some 41) (h := ?_)
            refine pz_ (i := 30) (N := some 43) (h := ?_)
            refine pz_ (i := 31) (N := some 44) (h := ?_)
            refine pz_ (i := 32) (N := some 45) (h := ?_)
            refine pz_ (i := 33) (N := some 46) (h := ?_)
            refine pz_ (i := 34) (N := some 47) (h := ?_)
            refine tz_ (i := 29) (N := some 42) (h := ?_)
            refine tz_ (i := 35) (N := some 48) (h := ?_)
            refine pz_ (i := 36) (N := some 49) (h := ?_)
            refine pz_ (i := 37) (N := some 50) (h := ?_)
            refine pz_ (i := 38) (N := some 51) (h := ?_)
            refine done_ (done_of HT_.out q37_) ?_
            try go_wp2
            go_ret
            exact ⟨by first | rfl | (simp [errW_none, errW_some] <;> rfl) | (simp only [← hji10]; first | rfl | (simp [errW_none, errW_some] <;> rfl)) | (simp [*, errW_none, errW_some] <;> rfl), by repeat (first | (with_reducible first | exact HB.out | apply below_alloc | apply pw_below_drewN | apply below_drew1) | exact HB.out)⟩
          ·rw [if_neg c12] at H
           exact absurd H (by simp)
         ·rw [if_neg c11] at H
          exact absurd H (by simp)
        ·rw [if_neg c9] at H
         have c9b0 : decide (0 < x3_1) = false := decide_eq_false c9
         clear c9
         have H' := Aside0.mk H
         clear H
         try go_wp2
         have n0_ := Aside0.mk (below_drew1 HB.out)
         clear HB
         have HB := n0_
         clear n0_
         have p219 : 0 ≤ (x3_1 : Int) := of_decide_eq_true q1_
         have q219 : x3_1 < (l0.length : Int) := of_decide_eq_true q1_
         obtain ⟨ad219, e219, hx219_0, hx219_1, hx219_2⟩ := at_T59 HR0.out x3_1 p219 q219
         have hw219_2 := hx219_2
         have hw219_1 := hx219_1
         have hw219_0 := hx219_0
         cases e219
         replace hx219_0 := (HB.out.cell (World.block_lt_of_cell? w _ hx219_0)).trans hx219_0
         replace hx219_1 := (HB.out.cell (World.block_lt_of_cell? w _ hx219_1)).trans hx219_1
         replace hx219_2 := (HB.out.cell (World.block_lt_of_cell? w _ hx219_2)).trans hx219_2
         replace p219 := eq_true p219
         replace q219 := eq_true q219
         have p221 : 0 ≤ (x3_1 : Int) := of_decide_eq_true q1_
         have q221 : x3_1 < (l0.length : Int) := of_decide_eq_true q1_
         obtain ⟨ad221, e221, hx221_0, hx221_1, hx221_2⟩ := at_T59 HR0.out x3_1 p221 q221
         have hw221_2 := hx221_2
         have hw221_1 := hx221_1
         have hw221_0 := hx221_0
         obtain rfl : ad219 = ad221 := (by injection e221)
         replace hx221_0 := (HB.out.cell (World.block_lt_of_cell? w _ hx221_0)).trans hx221_0
         replace hx221_1 := (HB.out.cell (World.block_lt_of_cell? w _ hx221_1)).trans hx221_1
         replace hx221_2 := (HB.out.cell (World.block_lt_of_cell? w _ hx221_2)).trans hx221_2
         replace p221 := eq_true p221
         replace q221 := eq_true q221
         have p222 : 0 ≤ (x3_1 : Int) := of_decide_eq_true q1_
         have q222 : x3_1 < (l0.length : Int) := of_decide_eq_true q1_
         obtain ⟨ad222, e222, hx222_0, hx222_1, hx222_2⟩ := at_T59 HR0.out x3_1 p222 q222
         have hw222_2 := hx222_2
         have hw222_1 := hx222_1
         have hw222_0 := hx222_0
         obtain rfl : ad219 = ad222 := (by injection e222)
         replace hx222_0 := (HB.out.cell (World.block_lt_of_cell? w _ hx222_0)).trans hx222_0
         replace hx222_1 := (HB.out.cell (World.block_lt_of_cell? w _ hx222_1)).trans hx222_1
         replace hx222_2 := (HB.out.cell (World.block_lt_of_cell? w _ hx222_2)).trans hx222_2
         replace p222 := eq_true p222
         replace q222 := eq_true q222
         refine start_ (n := 39) (S := fun w' => w'.cell? (ad219.add ((x3_1).toNat * 3)) = some (.string ((rd_T59 l0 x3_1).f0)) ∧ w'.cell? ⟨(ad219.add ((x3_1).toNat * 3)).block, (ad219.add ((x3_1).toNat * 3)).off + 1, none⟩ = some (.int .i64 ((rd_T59 l0 x3_1).f1)) ∧ w'.cell? ⟨(ad219.add ((x3_1).toNat * 3)).block, (ad219.add ((x3_1).toNat * 3)).off + 2, none⟩ = some (.int .u64 ((rd_T59 l0 x3_1).f2)) ∧ w'.cell? (ad219.add ((x3_1).toNat * 3)) = some (.string ((rd_T59 l0 x3_1).f0)) ∧ w'.cell? ⟨(ad219.add ((x3_1).toNat * 3)).block, (ad219.add ((x3_1).toNat * 3)).off + 1, none⟩ = some (.int .i64 ((rd_T59 l0 x3_1).f1)) ∧ w'.cell? ⟨(ad219.add ((x3_1).toNat * 3)).block, (ad219.add ((x3_1).toNat * 3)).off + 2, none⟩ = some (.int .u64 ((rd_T59 l0 x3_1).f2)) ∧ w'.cell? (ad219.add ((x3_1).toNat * 3)) = some (.string ((rd_T59 l0 x3_1).f0)) ∧ w'.cell? ⟨(ad219.add ((x3_1).toNat * 3)).block, (ad219.add ((x3_1).toNat * 3)).off + 1, none⟩ = some (.int .i64 ((rd_T59 l0 x3_1).f1)) ∧ w'.cell? ⟨(ad219.add ((x3_1).toNat * 3)).block, (ad219.add ((x3_1).toNat * 3)).off + 2, none⟩ = some (.int .u64 ((rd_T59 l0 x3_1).f2))) (ds := []) #[false, false, false, false, false, false, false, false, false, false, false, false, false, false, false, false, false, false, false, false, false, false, false, false, false, false, false, false, false, false, false, false, false, false, false, false, false, false, false] q37_ rfl rfl ⟨((HB.out.cell (World.block_lt_of_cell? w _ hw219_0)).trans hw219_0), ((HB.out.cell (World.block_lt_of_cell? w _ hw219_1)).trans hw219_1), ((HB.out.cell (World.block_lt_of_cell? w _ hw219_2)).trans hw219_2), ((HB.out.cell (World.block_lt_of_cell? w _ hw221_0)).trans hw221_0), ((HB.out.cell (World.block_lt_of_cell? w _ hw221_1)).trans hw221_1), ((HB.out.cell (World.block_lt_of_cell? w _ hw221_2)).trans hw221_2), ((HB.out.cell (World.block_lt_of_cell? w _ hw222_0)).trans hw222_0), ((HB.out.cell (World.block_lt_of_cell? w _ hw222_1)).trans hw222_1), ((HB.out.cell (World.block_lt_of_cell? w _ hw222_2)).trans hw222_2)⟩ (fun hHeld => ?_); refine with_tabW retargetref02_CheckBound.tab6 retargetref02_CheckBound.bits6 (fun HT_ HW_ => ?_)
         generalize wr.drew = w16 at HB hx219_0 hx219_1 hx219_2 hx221_0 hx221_1 hx221_2 hx222_0 hx222_1 hx222_2 hHeld ⊢
         refine pz_ (i := 0) (N := some 13) (h := ?_)
         refine pz_ (i := 1) (N := some 14) (h := ?_)
         refine pz_ (i := 2) (N := some 15) (h := ?_)
         refine pz_ (i := 3) (N := some 16) (h := ?_)
         refine tz_ (i := 4) (N := some 17) (h := ?_)
         refine nz_ (i := 5) (N := some 18) (h := fun K hK => ?_)
         refine goes_ Try.func33 q37_ rfl #[.string ((rd_T59 l0 x3_1).f0)] (by rfl) rfl rfl q2_ ?_
         with_reducible refine (retargetref02_Variable.calls k1 ((rd_T59 l0 x3_1).f0) true _ A5.out).mono ?_
         rintro e w' ⟨rfl, ⟨nd, rfl⟩⟩
         refine ⟨_, rfl, ?_⟩
         refine hK.out _ _ ⟨((HB.out.cell (World.block_lt_of_cell? w _ hw219_0)).trans hw219_0), ((HB.out.cell (World.block_lt_of_cell? w _ hw219_1)).trans hw219_1), ((HB.out.cell (World.block_lt_of_cell? w _ hw219_2)).trans hw219_2), ((HB.out.cell (World.block_lt_of_cell? w _ hw221_0)).trans hw221_0), ((HB.out.cell (World.block_lt_of_cell? w _ hw221_1)).trans hw221_1), ((HB.out.cell (World.block_lt_of_cell? w _ hw221_2)).trans hw221_2), ((HB.out.cell (World.block_lt_of_cell? w _ hw222_0)).trans hw222_0), ((HB.out.cell (World.block_lt_of_cell? w _ hw222_1)).trans hw222_1), ((HB.out.cell (World.block_lt_of_cell? w _ hw222_2)).trans hw222_2)⟩ (fun hHeld => ?_)
         clear hK K
         refine mz_ (some 18) (h := ?_)
         refine pz_ (i := 6) (N := some 19) (h := ?_)
         refine pz_ (i := 7) (N := some 20) (h := ?_)
         refine pz_ (i := 8) (N := some 21) (h := ?_)
         refine pz_ (i := 9) (N := some 22) (h := ?_)
         refine pz_ (i := 10) (N := some 23) (h := ?_)
         refine pz_ (i := 11) (N := some 24) (h := ?_)
         refine pz_ (i := 13) (N := some 26) (h := ?_)
         refine pz_ (i := 14) (N := some 27) (h := ?_)
         refine pz_ (i := 15) (N := some 28) (h := ?_)
         refine pz_ (i := 16) (N := some 29) (h := ?_)
         refine tz_ (i := 12) (N := some 25) (h := ?_)
         refine tz_ (i := 17) (N := some 30) (h := ?_)
         refine nz_ (i := 18) (N := some 31) (h := fun K hK => ?_)
         refine goes_ Try.func37 q37_ rfl #[.int .i64 ((rd_T59 l0 x3_1).f1), .int .u64 ((rd_T59 l0 x3_1).f2)] (by rfl) rfl rfl q2_ ?_
         with_reducible refine (retargetref01_Ok.calls k1 ((rd_T59 l0 x3_1).f1) ((rd_T59 l0 x3_1).f2) true _ A7.out).mono ?_
         rintro e w' ⟨rfl, ⟨nd, rfl⟩⟩
         refine ⟨_, rfl, ?_⟩
         refine hK.out _ _ ⟨((HB.out.cell (World.block_lt_of_cell? w _ hw219_0)).trans hw219_0), ((HB.out.cell (World.block_lt_of_cell? w _ hw219_1)).trans hw219_1), ((HB.out.cell (World.block_lt_of_cell? w _ hw219_2)).trans hw219_2), ((HB.out.cell (World.block_lt_of_cell? w _ hw221_0)).trans hw221_0), ((HB.out.cell (World.block_lt_of_cell? w _ hw221_1)).trans hw221_1), ((HB.out.cell (World.block_lt_of_cell? w _ hw221_2)).trans hw221_2), ((HB.out.cell (World.block_lt_of_cell? w _ hw222_0)).trans hw222_0), ((HB.out.cell (World.block_lt_of_cell? w _ hw222_1)).trans hw222_1), ((HB.out.cell (World.block_lt_of_cell? w _ hw222_2)).trans hw222_2)⟩ (fun hHeld => ?_)
         clear hK K
         refine mz_ (some 31) (h := ?_)
         refine pz_ (i := 19) (N := some 32) (h := ?_)
         refine pz_ (i := 20) (N := some 33) (h := ?_)
         refine pz_ (i := 21) (N := some 34) (h := ?_)
         refine pz_ (i := 22) (N := some 35) (h := ?_)
         refine pz_ (i := 23) (N := some 36) (h := ?_)
         refine pz_ (i := 24) (N := some 37) (h := ?_)
         refine oz_ (i := 25) (N := some 38) (h := ?_)
         refine oz_ (i := 26) (N := some 39) (h := ?_)
         refine oz_ (i := 27) (N := some 40) (h := ?_)
         refine oz_ (i := 28) (N := some 41) (h := ?_)
         refine oz_ (i := 29) (N := some 42) (h := ?_)
         refine oz_ (i := 30) (N := some 43) (h := ?_)
         refine oz_ (i := 31) (N := some 44) (h := ?_)
         refine oz_ (i := 32) (N := some 45) (h := ?_)
         refine oz_ (i := 33) (N := some 46) (h := ?_)
         refine oz_ (i := 34) (N := some 47) (h := ?_)
         refine oz_ (i := 35) (N := some 48) (h := ?_)
         refine oz_ (i := 36) (N := some 49) (h := ?_)
         refine pz_ (i := 37) (N := some 50) (h := ?_)
         refine pz_ (i := 38) (N := some 51) (h := ?_)
         refine done_ (done_of HT_.out q37_) ?_
         try go_wp2
         go_roundg k1
         case measure => have := HK1.out; omega
         case rel => exact ⟨(wrap64 (x3_1 + 1)), q13_, H', ⟨by have := HK1.out; omega⟩, ⟨by repeat (first | (with_reducible first | exact HB.out | apply below_alloc | apply pw_below_drewN | apply below_drew1) | exact HB.out)⟩⟩
       ·replace c8 := Bool.eq_false_iff.mpr c8
        subst c8
        have H1 : (some 8) = some r := by rw [if_neg (show ¬ (false = true) by decide)] at H; exact H
        clear H
        have H := H1
        clear H1
        obtain rfl := Option.some.inj H
        try go_wp2
        have n0_ := Aside0.mk (below_drew1 HB.out)
        clear HB
        have HB := n0_
        clear n0_
        have p219 : 0 ≤ (x3_1 : Int) := of_decide_eq_true q1_
        have q219 : x3_1 < (l0.length : Int) := of_decide_eq_true q1_
        obtain ⟨ad219, e219, hx219_0, hx219_1, hx219_2⟩ := at_T59 HR0.out x3_1 p219 q219
        have hw219_2 := hx219_2
        have hw219_1 := hx219_1
        have hw219_0 := hx219_0
        cases e219
        replace hx219_0 := (HB.out.cell (World.block_lt_of_cell? w _ hx219_0)).trans hx219_0
        replace hx219_1 := (HB.out.cell (World.block_lt_of_cell? w _ hx219_1)).trans hx219_1
        replace hx219_2 := (HB.out.cell (World.block_lt_of_cell? w _ hx219_2)).trans hx219_2
        replace p219 := eq_true p219
        replace q219 := eq_true q219
        have p221 : 0 ≤ (x3_1 : Int) := of_decide_eq_true q1_
        have q221 : x3_1 < (l0.length : Int) := of_decide_eq_true q1_
        obtain ⟨ad221, e221, hx221_0, hx221_1, hx221_2⟩ := at_T59 HR0.out x3_1 p221 q221
        have hw221_2 := hx221_2
        have hw221_1 := hx221_1
        have hw221_0 := hx221_0
        obtain rfl : ad219 = ad221 := (by injection e221)
        replace hx221_0 := (HB.out.cell (World.block_lt_of_cell? w _ hx221_0)).trans hx221_0
        replace hx221_1 := (HB.out.cell (World.block_lt_of_cell? w _ hx221_1)).trans hx221_1
        replace hx221_2 := (HB.out.cell (World.block_lt_of_cell? w _ hx221_2)).trans hx221_2
        replace p221 := eq_true p221
        replace q221 := eq_true q221
        have p222 : 0 ≤ (x3_1 : Int) := of_decide_eq_true q1_
        have q222 : x3_1 < (l0.length : Int) := of_decide_eq_true q1_
        obtain ⟨ad222, e222, hx222_0, hx222_1, hx222_2⟩ := at_T59 HR0.out x3_1 p222 q222
        have hw222_2 := hx222_2
        have hw222_1 := hx222_1
        have hw222_0 := hx222_0
        obtain rfl : ad219 = ad222 := (by injection e222)
        replace hx222_0 := (HB.out.cell (World.block_lt_of_cell? w _ hx222_0)).trans hx222_0
        replace hx222_1 := (HB.out.cell (World.block_lt_of_cell? w _ hx222_1)).trans hx222_1
        replace hx222_2 := (HB.out.cell (World.block_lt_of_cell? w _ hx222_2)).trans hx222_2
        replace p222 := eq_true p222
        replace q222 := eq_true q222
        refine start_ (n := 39) (S := fun w' => w'.cell? (ad219.add ((x3_1).toNat * 3)) = some (.string ((rd_T59 l0 x3_1).f0)) ∧ w'.cell? ⟨(ad219.add ((x3_1).toNat * 3)).block, (ad219.add ((x3_1).toNat * 3)).off + 1, none⟩ = some (.int .i64 ((rd_T59 l0 x3_1).f1)) ∧ w'.cell? ⟨(ad219.add ((x3_1).toNat * 3)).block, (ad219.add ((x3_1).toNat * 3)).off + 2, none⟩ = some (.int .u64 ((rd_T59 l0 x3_1).f2)) ∧ w'.cell? (ad219.add ((x3_1).toNat * 3)) = some (.string ((rd_T59 l0 x3_1).f0)) ∧ w'.cell? ⟨(ad219.add ((x3_1).toNat * 3)).block, (ad219.add ((x3_1).toNat * 3)).off + 1, none⟩ = some (.int .i64 ((rd_T59 l0 x3_1).f1)) ∧ w'.cell? ⟨(ad219.add ((x3_1).toNat * 3)).block, (ad219.add ((x3_1).toNat * 3)).off + 2, none⟩ = some (.int .u64 ((rd_T59 l0 x3_1).f2)) ∧ w'.cell? (ad219.add ((x3_1).toNat * 3)) = some (.string ((rd_T59 l0 x3_1).f0)) ∧ w'.cell? ⟨(ad219.add ((x3_1).toNat * 3)).block, (ad219.add ((x3_1).toNat * 3)).off + 1, none⟩ = some (.int .i64 ((rd_T59 l0 x3_1).f1)) ∧ w'.cell? ⟨(ad219.add ((x3_1).toNat * 3)).block, (ad219.add ((x3_1).toNat * 3)).off + 2, none⟩ = some (.int .u64 ((rd_T59 l0 x3_1).f2))) (ds := []) #[false, false, false, false, false, false, false, false, false, false, false, false, false, false, false, false, false, false, false, false, false, false, false, false, false, false, false, false, false, false, false, false, false, false, false, false, false, false, false] q37_ rfl rfl ⟨((HB.out.cell (World.block_lt_of_cell? w _ hw219_0)).trans hw219_0), ((HB.out.cell (World.block_lt_of_cell? w _ hw219_1)).trans hw219_1), ((HB.out.cell (World.block_lt_of_cell? w _ hw219_2)).trans hw219_2), ((HB.out.cell (World.block_lt_of_cell? w _ hw221_0)).trans hw221_0), ((HB.out.cell (World.block_lt_of_cell? w _ hw221_1)).trans hw221_1), ((HB.out.cell (World.block_lt_of_cell? w _ hw221_2)).trans hw221_2), ((HB.out.cell (World.block_lt_of_cell? w _ hw222_0)).trans hw222_0), ((HB.out.cell (World.block_lt_of_cell? w _ hw222_1)).trans hw222_1), ((HB.out.cell (World.block_lt_of_cell? w _ hw222_2)).trans hw222_2)⟩ (fun hHeld => ?_); refine with_tabW retargetref02_CheckBound.tab6 retargetref02_CheckBound.bits6 (fun HT_ HW_ => ?_)
        generalize wr.drew = w17 at HB hx219_0 hx219_1 hx219_2 hx221_0 hx221_1 hx221_2 hx222_0 hx222_1 hx222_2 hHeld ⊢
        refine pz_ (i := 0) (N := some 13) (h := ?_)
        refine pz_ (i := 1) (N := some 14) (h := ?_)
        refine pz_ (i := 2) (N := some 15) (h := ?_)
        refine pz_ (i := 3) (N := some 16) (h := ?_)
        refine tz_ (i := 4) (N := some 17) (h := ?_)
        refine nz_ (i := 5) (N := some 18) (h := fun K hK => ?_)
        refine goes_ Try.func33 q37_ rfl #[.string ((rd_T59 l0 x3_1).f0)] (by rfl) rfl rfl q2_ ?_
        with_reducible refine (retargetref02_Variable.calls k1 ((rd_T59 l0 x3_1).f0) true _ A5.out).mono ?_
        rintro e w' ⟨rfl, ⟨nd, rfl⟩⟩
        refine ⟨_, rfl, ?_⟩
        refine hK.out _ _ ⟨((HB.out.cell (World.block_lt_of_cell? w _ hw219_0)).trans hw219_0), ((HB.out.cell (World.block_lt_of_cell? w _ hw219_1)).trans hw219_1), ((HB.out.cell (World.block_lt_of_cell? w _ hw219_2)).trans hw219_2), ((HB.out.cell (World.block_lt_of_cell? w _ hw221_0)).trans hw221_0), ((HB.out.cell (World.block_lt_of_cell? w _ hw221_1)).trans hw221_1), ((HB.out.cell (World.block_lt_of_cell? w _ hw221_2)).trans hw221_2), ((HB.out.cell (World.block_lt_of_cell? w _ hw222_0)).trans hw222_0), ((HB.out.cell (World.block_lt_of_cell? w _ hw222_1)).trans hw222_1), ((HB.out.cell (World.block_lt_of_cell? w _ hw222_2)).trans hw222_2)⟩ (fun hHeld => ?_)
        clear hK K
        refine mz_ (some 18) (h := ?_)
        refine pz_ (i := 6) (N := some 19) (h := ?_)
        refine pz_ (i := 7) (N := some 20) (h := ?_)
        refine pz_ (i := 8) (N := some 21) (h := ?_)
        refine pz_ (i := 9) (N := some 22) (h := ?_)
        refine pz_ (i := 10) (N := some 23) (h := ?_)
        refine pz_ (i := 11) (N := some 24) (h := ?_)
        refine pz_ (i := 13) (N := some 26) (h := ?_)
        refine pz_ (i := 14) (N := some 27) (h := ?_)
        refine pz_ (i := 15) (N := some 28) (h := ?_)
        refine pz_ (i := 16) (N := some 29) (h := ?_)
        refine tz_ (i := 12) (N := some 25) (h := ?_)
        refine tz_ (i := 17) (N := some 30) (h := ?_)
        refine nz_ (i := 18) (N := some 31) (h := fun K hK => ?_)
        refine goes_ Try.func37 q37_ rfl #[.int .i64 ((rd_T59 l0 x3_1).f1), .int .u64 ((rd_T59 l0 x3_1).f2)] (by rfl) rfl rfl q2_ ?_
        with_reducible refine (retargetref01_Ok.calls k1 ((rd_T59 l0 x3_1).f1) ((rd_T59 l0 x3_1).f2) false _ A7.out).mono ?_
        rintro e w' ⟨rfl, ⟨nd, rfl⟩⟩
        refine ⟨_, rfl, ?_⟩
        refine hK.out _ _ ⟨((HB.out.cell (World.block_lt_of_cell? w _ hw219_0)).trans hw219_0), ((HB.out.cell (World.block_lt_of_cell? w _ hw219_1)).trans hw219_1), ((HB.out.cell (World.block_lt_of_cell? w _ hw219_2)).trans hw219_2), ((HB.out.cell (World.block_lt_of_cell? w _ hw221_0)).trans hw221_0), ((HB.out.cell (World.block_lt_of_cell? w _ hw221_1)).trans hw221_1), ((HB.out.cell (World.block_lt_of_cell? w _ hw221_2)).trans hw221_2), ((HB.out.cell (World.block_lt_of_cell? w _ hw222_0)).trans hw222_0), ((HB.out.cell (World.block_lt_of_cell? w _ hw222_1)).trans hw222_1), ((HB.out.cell (World.block_lt_of_cell? w _ hw222_2)).trans hw222_2)⟩ (fun hHeld => ?_)
        clear hK K
        refine mz_ (some 31) (h := ?_)
        refine pz_ (i := 19) (N := some 32) (h := ?_)
        refine pz_ (i := 20) (N := some 33) (h := ?_)
        refine pz_ (i := 21) (N := some 34) (h := ?_)
        refine oz_ (i := 22) (N := some 35) (h := ?_)
        refine oz_ (i := 23) (N := some 36) (h := ?_)
        refine oz_ (i := 24) (N := some 37) (h := ?_)
        refine oz_ (i := 25) (N := some 38) (h := ?_)
        refine oz_ (i := 26) (N := some 39) (h := ?_)
        refine oz_ (i := 27) (N := some 40) (h := ?_)
        refine oz_ (i := 28) (N := some 41) (h := ?_)
        refine oz_ (i := 29) (N := some 42) (h := ?_)
        refine oz_ (i := 30) (N := some 43) (h := ?_)
        refine oz_ (i := 31) (N := some 44) (h := ?_)
        refine oz_ (i := 32) (N := some 45) (h := ?_)
        refine oz_ (i := 33) (N := some 46) (h := ?_)
        refine oz_ (i := 34) (N := some 47) (h := ?_)
        refine oz_ (i := 35) (N := some 48) (h := ?_)
        refine oz_ (i := 36) (N := some 49) (h := ?_)
        refine oz_ (i := 37) (N := some 50) (h := ?_)
        refine pz_ (i := 38) (N := some 51) (h := ?_)
        refine done_ (done_of HT_.out q37_) ?_
        try go_wp2
        go_ret
        exact ⟨by first | rfl | (simp [errW_none, errW_some] <;> rfl) | (simp [*, errW_none, errW_some] <;> rfl), by repeat (first | (with_reducible first | exact HB.out | apply below_alloc | apply pw_below_drewN | apply below_drew1) | exact HB.out)⟩
      ·replace c6 := Bool.eq_false_iff.mpr c6
       subst c6
       have H1 : (some 8) = some r := by rw [if_neg (show ¬ (false = true) by decide)] at H; exact H
       clear H
       have H := H1
       clear H1
       obtain rfl := Option.some.inj H
       try go_wp2
       have n0_ := Aside0.mk (below_drew1 HB.out)
       clear HB
       have HB := n0_
       clear n0_
       have p219 : 0 ≤ (x3_1 : Int) := of_decide_eq_true q1_
       have q219 : x3_1 < (l0.length : Int) := of_decide_eq_true q1_
       obtain ⟨ad219, e219, hx219_0, hx219_1, hx219_2⟩ := at_T59 HR0.out x3_1 p219 q219
       have hw219_2 := hx219_2
       have hw219_1 := hx219_1
       have hw219_0 := hx219_0
       cases e219
       replace hx219_0 := (HB.out.cell (World.block_lt_of_cell? w _ hx219_0)).trans hx219_0
       replace hx219_1 := (HB.out.cell (World.block_lt_of_cell? w _ hx219_1)).trans hx219_1
       replace hx219_2 := (HB.out.cell (World.block_lt_of_cell? w _ hx219_2)).trans hx219_2
       replace p219 := eq_true p219
       replace q219 := eq_true q219
       refine start_ (n := 39) (S := fun w' => w'.cell? (ad219.add ((x3_1).toNat * 3)) = some (.string ((rd_T59 l0 x3_1).f0)) ∧ w'.cell? ⟨(ad219.add ((x3_1).toNat * 3)).block, (ad219.add ((x3_1).toNat * 3)).off + 1, none⟩ = some (.int .i64 ((rd_T59 l0 x3_1).f1)) ∧ w'.cell? ⟨(ad219.add ((x3_1).toNat * 3)).block, (ad219.add ((x3_1).toNat * 3)).off + 2, none⟩ = some (.int .u64 ((rd_T59 l0 x3_1).f2))) (ds := []) #[false, false, false, false, false, false, false, false, false, false, false, false, false, false, false, false, false, false, false, false, false, false, false, false, false, false, false, false, false, false, false, false, false, false, false, false, false, false, false] q37_ rfl rfl ⟨((HB.out.cell (World.block_lt_of_cell? w _ hw219_0)).trans hw219_0), ((HB.out.cell (World.block_lt_of_cell? w _ hw219_1)).trans hw219_1), ((HB.out.cell (World.block_lt_of_cell? w _ hw219_2)).trans hw219_2)⟩ (fun hHeld => ?_); refine with_tabW retargetref02_CheckBound.tab6 retargetref02_CheckBound.bits6 (fun HT_ HW_ => ?_)
       generalize wr.drew = w18 at HB hx219_0 hx219_1 hx219_2 hHeld ⊢
       refine pz_ (i := 0) (N := some 13) (h := ?_)
       refine pz_ (i := 1) (N := some 14) (h := ?_)
       refine pz_ (i := 2) (N := some 15) (h := ?_)
       refine pz_ (i := 3) (N := some 16) (h := ?_)
       refine tz_ (i := 4) (N := some 17) (h := ?_)
       refine nz_ (i := 5) (N := some 18) (h := fun K hK => ?_)
       refine goes_ Try.func33 q37_ rfl #[.string ((rd_T59 l0 x3_1).f0)] (by rfl) rfl rfl q2_ ?_
       with_reducible refine (retargetref02_Variable.calls k1 ((rd_T59 l0 x3_1).f0) false _ A5.out).mono ?_
       rintro e w' ⟨rfl, ⟨nd, rfl⟩⟩
       refine ⟨_, rfl, ?_⟩
       refine hK.out _ _ ⟨((HB.out.cell (World.block_lt_of_cell? w _ hw219_0)).trans hw219_0), ((HB.out.cell (World.block_lt_of_cell? w _ hw219_1)).trans hw219_1), ((HB.out.cell (World.block_lt_of_cell? w _ hw219_2)).trans hw219_2)⟩ (fun hHeld => ?_)
       clear hK K
       refine mz_ (some 18) (h := ?_)
       refine pz_ (i := 6) (N := some 19) (h := ?_)
       refine pz_ (i := 7) (N := some 20) (h := ?_)
       refine oz_ (i := 8) (N := some 21) (h := ?_)
       refine oz_ (i := 9) (N := some 22) (h := ?_)
       refine oz_ (i := 10) (N := some 23) (h := ?_)
       refine oz_ (i := 11) (N := some 24) (h := ?_)
       refine oz_ (i := 12) (N := some 25) (h := ?_)
       refine oz_ (i := 13) (N := some 26) (h := ?_)
       refine oz_ (i := 14) (N := some 27) (h := ?_)
       refine oz_ (i := 15) (N := some 28) (h := ?_)
       refine oz_ (i := 16) (N := some 29) (h := ?_)
       refine oz_ (i := 17) (N := some 30) (h := ?_)
       refine oz_ (i := 18) (N := some 31) (h := ?_)
       refine oz_ (i := 19) (N := some 32) (h := ?_)
       refine pz_ (i := 20) (N := some 33) (h := ?_)
       refine pz_ (i := 21) (N := some 34) (h := ?_)
       refine oz_ (i := 22) (N := some 35) (h := ?_)
       refine oz_ (i := 23) (N := some 36) (h := ?_)
       refine oz_ (i := 24) (N := some 37) (h := ?_)
       refine oz_ (i := 25) (N := some 38) (h := ?_)
       refine oz_ (i := 26) (N := some 39) (h := ?_)
       refine oz_ (i := 27) (N := some 40) (h := ?_)
       refine oz_ (i := 28) (N := some 41) (h := ?_)
       refine oz_ (i := 29) (N := some 42) (h := ?_)
       refine oz_ (i := 30) (N := some 43) (h := ?_)
       refine oz_ (i := 31) (N := some 44) (h := ?_)
       refine oz_ (i := 32) (N := some 45) (h := ?_)
       refine oz_ (i := 33) (N := some 46) (h := ?_)
       refine oz_ (i := 34) (N := some 47) (h := ?_)
       refine oz_ (i := 35) (N := some 48) (h := ?_)
       refine oz_ (i := 36) (N := some 49) (h := ?_)
       refine oz_ (i := 37) (N := some 50) (h := ?_)
       refine pz_ (i := 38) (N := some 51) (h := ?_)
       refine done_ (done_of HT_.out q37_) ?_
       try go_wp2
       go_ret
       exact ⟨by first | rfl | (simp [errW_none, errW_some] <;> rfl) | (simp [*, errW_none, errW_some] <;> rfl), by repeat (first | (with_reducible first | exact HB.out | apply below_alloc | apply pw_below_drewN | apply below_drew1) | exact HB.out)⟩
     ·rw [if_neg c4] at H
      exact absurd H (by simp)
    ·rw [if_neg c3] at H
     have c3b0 : decide (x3_1 < (l0.length : Int)) = false := decide_eq_false c3
     clear c3
     obtain rfl := Option.some.inj H
     go_wp2
     go_ret
     exact ⟨by first | rfl | (simp [errW_none, errW_some] <;> rfl) | (simp [*, errW_none, errW_some] <;> rfl), by repeat (first | (with_reducible first | exact HB.out | apply below_alloc | apply pw_below_drewN | apply below_drew1) | exact HB.out)⟩

end Go.Proofs.Ytjapfakpfoeaiaa.MBlastRuns
