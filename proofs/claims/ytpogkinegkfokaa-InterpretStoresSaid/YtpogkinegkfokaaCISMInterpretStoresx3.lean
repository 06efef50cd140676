/- Functions of the program as Lean functions, and of each a proof that the Go code comes to just its answers. Laid for this claim by wip/drive.py of this repo (our driver over the kit's printing program); no text of print.sh. No condition. -/
import Derived.Test.YtpogkinegkfokaaCISMInterpretStoresx0
namespace Go.Proofs.Ytpogkinegkfokaa.MInterpretStores
open Go.Proofs.Ytpogkinegkfokaa.Zed Go.RowKit Go.Proofs.YtpogkinegkfokaaW.PrintWords Go.Proofs.YtpogkinegkfokaaW.PrintLast Go.Proofs.YtpogkinegkfokaaW.PrintMore
attribute [local go_sem] max2_int min2_int max_two min_two max_three min_three max_four min_four   -- for this text's walks alone
set_option linter.unusedVariables false
set_option linter.unusedSimpArgs false

/-! ### retargetref02_CheckCells: function 28 -/
def retargetref02_CheckCells.l0 : Nat → List (S36) → Int → Option (Int)
 | 0, _, _ => none
 | k + 1, x0, x3 => if x3 < (x0.length : Int) then (if 0 ≤ x3 then (if ((rd_T36 x0 x3).f1) = 0 then (some 8) else (if x3 > 0 then (if 0 ≤ (wrap64 (x3 - 1)) then (if (wrap64 (x3 - 1)) < (x0.length : Int) then (if ((rd_T36 x0 x3).f0) ≤ ((rd_T36 x0 (wrap64 (x3 - 1))).f0) then (some 8) else (retargetref02_CheckCells.l0 k x0 (wrap64 (x3 + 1)))) else (none)) else (none)) else (retargetref02_CheckCells.l0 k x0 (wrap64 (x3 + 1))))) else (none)) else (some 0)
def retargetref02_CheckCells.f (k : Nat) (l0 : List (S36)) : Option (Int) := if (l0.length : Int) > 4096 then (some 8) else (retargetref02_CheckCells.l0 k l0 0)
theorem retargetref02_CheckCells.mono_l : ∀ k, (∀ y0 y1, LeO (retargetref02_CheckCells.l0 k y0 y1) (retargetref02_CheckCells.l0 (k + 1) y0 y1))
 | 0 => fun _ _ r h => by simp [retargetref02_CheckCells.l0] at h
 | k + 1 => by
  have ih0 := retargetref02_CheckCells.mono_l k
  ·intro y0 y1
   unfold retargetref02_CheckCells.l0
   repeat' first
   | (with_reducible exact ih0 _ _)
   | (with_reducible exact LeO.refl _)
   | (with_reducible exact LeO.none _)
   | (with_reducible refine LeO.ite ?_ ?_)
   | (with_reducible refine LeO.bind ?_ (fun _ => ?_))
   | exact ih0 _ _
   | exact LeO.none _
   | refine LeO.ite ?_ ?_
   | refine LeO.bind ?_ (fun _ => ?_)
theorem retargetref02_CheckCells.mono : ∀ a0 k, LeO (retargetref02_CheckCells.f k a0) (retargetref02_CheckCells.f (k + 1) a0) := by
 intro a0 k
 have ih0 := retargetref02_CheckCells.mono_l k
 unfold retargetref02_CheckCells.f
 repeat' first
   | (with_reducible exact ih0 _ _)
   | (with_reducible exact LeO.refl _)
   | (with_reducible exact LeO.none _)
   | (with_reducible refine LeO.ite ?_ ?_)
   | (with_reducible refine LeO.bind ?_ (fun _ => ?_))
   | exact ih0 _ _
   | exact LeO.none _
   | refine LeO.ite ?_ ?_
   | refine LeO.bind ?_ (fun _ => ?_)
set_option maxHeartbeats 8000000 in
set_option maxRecDepth 100000 in
theorem retargetref02_CheckCells.calls (k : Nat) (A0 : Option Addr) (c0 : Nat) (l0 : List (S36)) (r : Int) (w : World) (hr0 : Kd.C k36 w A0 l0.length l0) (hc0 : l0.length ≤ c0) (h : retargetref02_CheckCells.f k l0 = some r) :
  Calls Try.prog 28 #[.slice A0 l0.length c0] w fun e w' => e = .returned (.int .i64 r) ∧ Drawn0 w w' := by
 have HR0 := Aside0.mk hr0
 have HC0 := Aside0.mk hc0
 clear hr0 hc0
 have H : (if (l0.length : Int) > 4096 then (some 8) else (retargetref02_CheckCells.l0 k l0 0)) = some r := h
 clear h
 by_cases c2 : (l0.length : Int) > 4096
 ·rw [if_pos c2] at H
  have c2b0 : decide (4096 < (l0.length : Int)) = true := decide_eq_true c2
  have c2b1 : decide (4096 < l0.length) = true := decide_eq_true (by omega)
  clear c2
  obtain rfl := Option.some.inj H
  go_enter Try.func28, Try.ntmps28
  go_wp2
  repeat (go_quiet (fail); try go_wp2)
  go_ret
  exact ⟨by first | rfl | (simp; done) | (simp [*]; done), by repeat (first | exact Drawn0.refl _ | apply Drawn0.step)⟩
 ·rw [if_neg c2] at H
  have c2b0 : decide (4096 < (l0.length : Int)) = false := decide_eq_false c2
  have c2b1 : decide (4096 < l0.length) = false := decide_eq_false (by omega)
  clear c2
  have H' := Aside0.mk H
  clear H
  go_enter Try.func28, Try.ntmps28
  go_wp2
  repeat (go_quiet (fail); try go_wp2)
  go_loopg [3] k (fun kq v3 w' => ∃ (x3_1 : Int), v3 = .int .i64 x3_1 ∧ Aside0 (retargetref02_CheckCells.l0 kq l0 x3_1 = some r) ∧ Aside0 (kq ≤ k) ∧ Drawn0 w w')
  case atStart => exact ⟨(0), q4_, H', ⟨Nat.le_refl _⟩, by repeat (first | exact Drawn0.refl _ | apply Drawn0.step)⟩
  case round =>
   clear H'
   try clear c2
   try clear c2b0
   try clear c2b1
   try clear p2
   obtain ⟨x3_1, rfl, HA, HK1, ⟨m1, rfl⟩⟩ := hrel
   cases gk with
   | zero => exact absurd HA.out (by simp [retargetref02_CheckCells.l0])
   | succ k1 =>
    have H := HA.out
    clear HA
    simp only [retargetref02_CheckCells.l0] at H
    by_cases c3 : x3_1 < (l0.length : Int)
    ·rw [if_pos c3] at H
     have c3b0 : decide (x3_1 < (l0.length : Int)) = true := decide_eq_true c3
     clear c3
     by_cases c4 : 0 ≤ x3_1
     ·rw [if_pos c4] at H
      have c4b0 : decide (0 ≤ x3_1) = true := decide_eq_true c4
      clear c4
      by_cases c5 : ((rd_T36 l0 x3_1).f1) = 0
      ·rw [if_pos c5] at H
       have c5b0 : (((rd_T36 l0 x3_1).f1) == 0) = true := beq_iff_eq.mpr c5
       have c5b1 : (((rd_T36 l0 x3_1).f1) != 0) = false := bne_eq_false_iff_eq.mpr c5
       clear c5
       obtain rfl := Option.some.inj H
       have p127 : 0 ≤ (x3_1 : Int) := of_decide_eq_true q2_
       have q127 : x3_1 < (l0.length : Int) := of_decide_eq_true q2_
       obtain ⟨ad127, e127, hx127_0, hx127_1⟩ := at_T36 HR0.out x3_1 p127 q127
       cases e127
       replace p127 := eq_true p127
       replace q127 := eq_true q127
       go_wp2
       repeat (go_quiet (fail); try go_wp2)
       go_ret
       exact ⟨by first | rfl | (simp; done) | (simp [*]; done), by repeat (first | exact Drawn0.refl _ | apply Drawn0.step)⟩
      ·rw [if_neg c5] at H
       have c5b0 : (((rd_T36 l0 x3_1).f1) == 0) = false := beq_eq_false_iff_ne.mpr c5
       have c5b1 : (((rd_T36 l0 x3_1).f1) != 0) = true := bne_iff_ne.mpr c5
       by_cases c6 : x3_1 > 0
       ·rw [if_pos c6] at H
        have c6b0 : decide (0 < x3_1) = true := decide_eq_true c6
        clear c6
        obtain ⟨ji7, hji7⟩ : ∃ j_ : Int, (wrap64 (x3_1 - 1)) = j_ := ⟨_, rfl⟩
        replace H : (if 0 ≤ (ji7) then (if (ji7) < (l0.length : Int) then (if ((rd_T36 l0 x3_1).f0) ≤ ((rd_T36 l0 (ji7)).f0) then (some 8) else (retargetref02_CheckCells.l0 k1 l0 (wrap64 (x3_1 + 1)))) else (none)) else (none)) = some r := by first | (rw [hji7] at H; exact H) | (simp only [hji7] at H ⊢; exact H)
        have hji7w : (IntKind.i64.wrap (x3_1 - 1)) = ji7 := (i64_w _).trans hji7
        by_cases c8 : 0 ≤ (ji7)
        ·rw [if_pos c8] at H
         have c8b0 : decide (0 ≤ (ji7)) = true := decide_eq_true c8
         clear c8
         by_cases c9 : (ji7) < (l0.length : Int)
         ·rw [if_pos c9] at H
          have c9b0 : decide ((ji7) < (l0.length : Int)) = true := decide_eq_true c9
          clear c9
          by_cases c10 : ((rd_T36 l0 x3_1).f0) ≤ ((rd_T36 l0 (ji7)).f0)
          ·rw [if_pos c10] at H
           have c10b0 : decide (((rd_T36 l0 x3_1).f0) ≤ ((rd_T36 l0 (ji7)).f0)) = true := decide_eq_true c10
           clear c10
           obtain rfl := Option.some.inj H
           have p127 : 0 ≤ (x3_1 : Int) := of_decide_eq_true q2_
           have q127 : x3_1 < (l0.length : Int) := of_decide_eq_true q2_
           obtain ⟨ad127, e127, hx127_0, hx127_1⟩ := at_T36 HR0.out x3_1 p127 q127
           cases e127
           replace p127 := eq_true p127
           replace q127 := eq_true q127
           have p128 : 0 ≤ (x3_1 : Int) := of_decide_eq_true q2_
           have q128 : x3_1 < (l0.length : Int) := of_decide_eq_true q2_
           obtain ⟨ad128, e128, hx128_0, hx128_1⟩ := at_T36 HR0.out x3_1 p128 q128
           obtain rfl : ad127 = ad128 := (by injection e128)
           replace p128 := eq_true p128
           replace q128 := eq_true q128
           have p129 : 0 ≤ ((ji7) : Int) := of_decide_eq_true q2_
           have q129 : (ji7) < (l0.length : Int) := of_decide_eq_true q2_
           obtain ⟨ad129, e129, hx129_0, hx129_1⟩ := at_T36 HR0.out (ji7) p129 q129
           obtain rfl : ad127 = ad129 := (by injection e129)
           replace p129 := eq_true p129
           replace q129 := eq_true q129
           go_wp2
           repeat (go_quiet (fail); try go_wp2)
           go_ret
           exact ⟨by first | rfl | (simp; done) | (simp only [← hji7] <;> (first | rfl | simp)) | (simp [*]; done), by repeat (first | exact Drawn0.refl _ | apply Drawn0.step)⟩
          ·rw [if_neg c10] at H
           have c10b0 : decide (((rd_T36 l0 x3_1).f0) ≤ ((rd_T36 l0 (ji7)).f0)) = false := decide_eq_false c10
           clear c10
           have H' := Aside0.mk H
           clear H
           have p127 : 0 ≤ (x3_1 : Int) := of_decide_eq_true q2_
           have q127 : x3_1 < (l0.length : Int) := of_decide_eq_true q2_
           obtain ⟨ad127, e127, hx127_0, hx127_1⟩ := at_T36 HR0.out x3_1 p127 q127
           cases e127
           replace p127 := eq_true p127
           replace q127 := eq_true q127
           have p128 : 0 ≤ (x3_1 : Int) := of_decide_eq_true q2_
           have q128 : x3_1 < (l0.length : Int) := of_decide_eq_true q2_
           obtain ⟨ad128, e128, hx128_0, hx128_1⟩ := at_T36 HR0.out x3_1 p128 q128
           obtain rfl : ad127 = ad128 := (by injection e128)
           replace p128 := eq_true p128
           replace q128 := eq_true q128
           have p129 : 0 ≤ ((ji7) : Int) := of_decide_eq_true q2_
           have q129 : (ji7) < (l0.length : Int) := of_decide_eq_true q2_
           obtain ⟨ad129, e129, hx129_0, hx129_1⟩ := at_T36 HR0.out (ji7) p129 q129
           obtain rfl : ad127 = ad129 := (by injection e129)
           replace p129 := eq_true p129
           replace q129 := eq_true q129
           go_wp2
           repeat (go_quiet (fail); try go_wp2)
           go_roundg k1
           case measure => have := HK1.out; omega
           case rel => exact ⟨(wrap64 (x3_1 + 1)), q4_, H', ⟨by have := HK1.out; omega⟩, by repeat (first | exact Drawn0.refl _ | apply Drawn0.step)⟩
         ·rw [if_neg c9] at H
          exact absurd H (by simp)
        ·rw [if_neg c8] at H
         exact absurd H (by simp)
       ·rw [if_neg c6] at H
        have c6b0 : decide (0 < x3_1) = false := decide_eq_false c6
        clear c6
        have H' := Aside0.mk H
        clear H
        have p127 : 0 ≤ (x3_1 : Int) := of_decide_eq_true q2_
        have q127 : x3_1 < (l0.length : Int) := of_decide_eq_true q2_
        obtain ⟨ad127, e127, hx127_0, hx127_1⟩ := at_T36 HR0.out x3_1 p127 q127
        cases e127
        replace p127 := eq_true p127
        replace q127 := eq_true q127
        go_wp2
        repeat (go_quiet (fail); try go_wp2)
        go_roundg k1
        case measure => have := HK1.out; omega
        case rel => exact ⟨(wrap64 (x3_1 + 1)), q4_, H', ⟨by have := HK1.out; omega⟩, by repeat (first | exact Drawn0.refl _ | apply Drawn0.step)⟩
     ·rw [if_neg c4] at H
      exact absurd H (by simp)
    ·rw [if_neg c3] at H
     have c3b0 : decide (x3_1 < (l0.length : Int)) = false := decide_eq_false c3
     clear c3
     obtain rfl := Option.some.inj H
     go_wp2
     repeat (go_quiet (fail); try go_wp2)
     go_ret
     exact ⟨by first | rfl | (simp; done) | (simp [*]; done), by repeat (first | exact Drawn0.refl _ | apply Drawn0.step)⟩

/-! ### retargetref19_Memory: function 18 -/
def retargetref19_Memory.f (k : Nat) (l0 : List (S36)) : Option (Bool) := if (l0.length : Int) ≤ 4096 then ((retargetref02_CheckCells.f k l0).bind fun t130 => (if t130 = 0 then (if (l0.length : Int) = 0 then (some true) else (if 0 ≤ (wrap64 ((l0.length : Int) - 1)) then (if (wrap64 ((l0.length : Int) - 1)) < (l0.length : Int) then (some (decide (((rd_T36 l0 (wrap64 ((l0.length : Int) - 1))).f0) ≤ 4294967295))) else (none)) else (none))) else (some false))) else (some false)
theorem retargetref19_Memory.mono : ∀ a0 k, LeO (retargetref19_Memory.f k a0) (retargetref19_Memory.f (k + 1) a0) := by
 intro a0 k
 unfold retargetref19_Memory.f
 repeat' first
   | (with_reducible exact retargetref02_CheckCells.mono _ _)
   | (with_reducible exact LeO.refl _)
   | (with_reducible exact LeO.none _)
   | (with_reducible refine LeO.ite ?_ ?_)
   | (with_reducible refine LeO.bind ?_ (fun _ => ?_))
   | exact retargetref02_CheckCells.mono _ _
   | exact LeO.none _
   | refine LeO.ite ?_ ?_
   | refine LeO.bind ?_ (fun _ => ?_)
set_option maxHeartbeats 8000000 in
set_option maxRecDepth 100000 in
theorem retargetref19_Memory.calls (k : Nat) (A0 : Option Addr) (c0 : Nat) (l0 : List (S36)) (r : Bool) (w : World) (hr0 : Kd.C k36 w A0 l0.length l0) (hc0 : l0.length ≤ c0) (h : retargetref19_Memory.f k l0 = some r) :
  Calls Try.prog 18 #[.slice A0 l0.length c0] w fun e w' => e = .returned (.bool r) ∧ Drawn0 w w' := by
 have HR0 := Aside0.mk hr0
 have HC0 := Aside0.mk hc0
 clear hr0 hc0
 have H : (if (l0.length : Int) ≤ 4096 then ((retargetref02_CheckCells.f k l0).bind fun t130 => (if t130 = 0 then (if (l0.length : Int) = 0 then (some true) else (if 0 ≤ (wrap64 ((l0.length : Int) - 1)) then (if (wrap64 ((l0.length : Int) - 1)) < (l0.length : Int) then (some (decide (((rd_T36 l0 (wrap64 ((l0.length : Int) - 1))).f0) ≤ 4294967295))) else (none)) else (none))) else (some false))) else (some false)) = some r := h
 clear h
 by_cases c2 : (l0.length : Int) ≤ 4096
 ·rw [if_pos c2] at H
  have c2b0 : decide ((l0.length : Int) ≤ 4096) = true := decide_eq_true c2
  have c2b1 : decide (l0.length ≤ 4096) = true := decide_eq_true (by omega)
  clear c2
  replace H := Option.bind_eq_some_iff.mp H
  obtain ⟨t130, A30, H⟩ := H
  replace H : (if t130 = 0 then (if (l0.length : Int) = 0 then (some true) else (if 0 ≤ (wrap64 ((l0.length : Int) - 1)) then (if (wrap64 ((l0.length : Int) - 1)) < (l0.length : Int) then (some (decide (((rd_T36 l0 (wrap64 ((l0.length : Int) - 1))).f0) ≤ 4294967295))) else (none)) else (none))) else (some false)) = some r := H
  have A3 := Aside0.mk A30
  clear A30
  by_cases c4 : t130 = 0
  ·rw [if_pos c4] at H
   have c4b0 : (t130 == 0) = true := beq_iff_eq.mpr c4
   have c4b1 : (t130 != 0) = false := bne_eq_false_iff_eq.mpr c4
   clear c4
   by_cases c5 : (l0.length : Int) = 0
   ·rw [if_pos c5] at H
    have c5b0 : ((l0.length : Int) == 0) = true := beq_iff_eq.mpr c5
    have c5b1 : ((l0.length : Int) != 0) = false := bne_eq_false_iff_eq.mpr c5
    clear c5
    obtain rfl := Option.some.inj H
    go_enter Try.func18, Try.ntmps18
    go_wp2_with (first | (go_at_call 28; (with_reducible refine (retargetref02_CheckCells.calls k _ _ l0 t130 _ ?side1 ?side2 A3.out).mono ?_); (case side1 => repeat (first | exact HR0.out | (with_reducible refine Kd.C_alloc ?_ _) | (with_reducible refine Kd.C_drewN ?_ _) | (with_reducible refine Kd.C_drew ?_))); (case side2 => exact HC0.out); rintro e w' ⟨rfl, ⟨nd, rfl⟩⟩))
    go_ret
    exact ⟨by first | rfl | (simp; done) | (simp [*]; done), by repeat (first | exact Drawn0.refl _ | apply Drawn0.step)⟩
   ·rw [if_neg c5] at H
    have c5b0 : ((l0.length : Int) == 0) = false := beq_eq_false_iff_ne.mpr c5
    have c5b1 : ((l0.length : Int) != 0) = true := bne_iff_ne.mpr c5
    have c5b2 : ¬ (l0 = []) := fun h_ => c5 (by rw [h_]; rfl)
    obtain ⟨ji6, hji6⟩ : ∃ j_ : Int, (wrap64 ((l0.length : Int) - 1)) = j_ := ⟨_, rfl⟩
    replace H : (if 0 ≤ (ji6) then (if (ji6) < (l0.length : Int) then (some (decide (((rd_T36 l0 (ji6)).f0) ≤ 4294967295))) else (none)) else (none)) = some r := by first | (rw [hji6] at H; exact H) | (simp only [hji6] at H ⊢; exact H)
    (try rw [hji6] at A3)
    have hji6w : (IntKind.i64.wrap ((l0.length : Int) - 1)) = ji6 := (i64_w _).trans hji6
    by_cases c7 : 0 ≤ (ji6)
    ·rw [if_pos c7] at H
     have c7b0 : decide (0 ≤ (ji6)) = true := decide_eq_true c7
     clear c7
     by_cases c8 : (ji6) < (l0.length : Int)
     ·rw [if_pos c8] at H
      have c8b0 : decide ((ji6) < (l0.length : Int)) = true := decide_eq_true c8
      clear c8
      obtain rfl := Option.some.inj H
      go_enter Try.func18, Try.ntmps18
      go_wp2_with (first | (go_at_call 28; (with_reducible refine (retargetref02_CheckCells.calls k _ _ l0 t130 _ ?side1 ?side2 A3.out).mono ?_); (case side1 => repeat (first | exact HR0.out | (with_reducible refine Kd.C_alloc ?_ _) | (with_reducible refine Kd.C_drewN ?_ _) | (with_reducible refine Kd.C_drew ?_))); (case side2 => exact HC0.out); rintro e w' ⟨rfl, ⟨nd, rfl⟩⟩; have p131 : 0 ≤ ((ji6) : Int) := of_decide_eq_true q2_; have q131 : (ji6) < (l0.length : Int) := of_decide_eq_true q2_; obtain ⟨ad131, e131, hx131_0, hx131_1⟩ := at_T36 HR0.out (ji6) p131 q131; cases e131; replace p131 := eq_true p131; replace q131 := eq_true q131))
      go_ret
      exact ⟨by first | rfl | (simp; done) | (simp only [← hji6] <;> (first | rfl | simp)) | (simp [*]; done), by repeat (first | exact Drawn0.refl _ | apply Drawn0.step)⟩
     ·rw [if_neg c8] at H
      exact absurd H (by simp)
    ·rw [if_neg c7] at H
     exact absurd H (by simp)
  ·rw [if_neg c4] at H
   have c4b0 : (t130 == 0) = false := beq_eq_false_iff_ne.mpr c4
   have c4b1 : (t130 != 0) = true := bne_iff_ne.mpr c4
   obtain rfl := Option.some.inj H
   go_enter Try.func18, Try.ntmps18
   go_wp2_with (first | (go_at_call 28; (with_reducible refine (retargetref02_CheckCells.calls k _ _ l0 t130 _ ?side1 ?side2 A3.out).mono ?_); (case side1 => repeat (first | exact HR0.out | (with_reducible refine Kd.C_alloc ?_ _) | (with_reducible refine Kd.C_drewN ?_ _) | (with_reducible refine Kd.C_drew ?_))); (case side2 => exact HC0.out); rintro e w' ⟨rfl, ⟨nd, rfl⟩⟩))
   go_ret
   exact ⟨by first | rfl | (simp; done) | (simp [*]; done), by repeat (first | exact Drawn0.refl _ | apply Drawn0.step)⟩
 ·rw [if_neg c2] at H
  have c2b0 : decide ((l0.length : Int) ≤ 4096) = false := decide_eq_false c2
  have c2b1 : decide (l0.length ≤ 4096) = false := decide_eq_false (by omega)
  clear c2
  obtain rfl := Option.some.inj H
  go_enter Try.func18, Try.ntmps18
  go_wp2
  go_ret
  exact ⟨by first | rfl | (simp; done) | (simp [*]; done), by repeat (first | exact Drawn0.refl _ | apply Drawn0.step)⟩

/-! ### retargetref01_Wide: function 29 -/
def retargetref01_Wide.f (a0 : Int) : Option (Bool) := if a0 ≥ 1 then (some (decide (a0 ≤ 64))) else (some false)
set_option maxHeartbeats 8000000 in
set_option maxRecDepth 100000 in
theorem retargetref01_Wide.calls (a0 : Int) (r : Bool) (w : World) (h : retargetref01_Wide.f a0 = some r) :
  Calls Try.prog 29 #[.int .i64 a0] w fun e w' => e = .returned (.bool r) ∧ Drawn0 w w' := by
 have H : (if a0 ≥ 1 then (some (decide (a0 ≤ 64))) else (some false)) = some r := h
 clear h
 by_cases c2 : a0 ≥ 1
 ·rw [if_pos c2] at H
  have c2b0 : decide (1 ≤ a0) = true := decide_eq_true c2
  clear c2
  obtain rfl := Option.some.inj H
  go_enter Try.func29, Try.ntmps29
  go_wp2
  go_ret
  exact ⟨by first | rfl | (simp; done) | (simp [*]; done), by repeat (first | exact Drawn0.refl _ | apply Drawn0.step)⟩
 ·rw [if_neg c2] at H
  have c2b0 : decide (1 ≤ a0) = false := decide_eq_false c2
  clear c2
  obtain rfl := Option.some.inj H
  go_enter Try.func29, Try.ntmps29
  go_wp2
  go_ret
  exact ⟨by first | rfl | (simp; done) | (simp [*]; done), by repeat (first | exact Drawn0.refl _ | apply Drawn0.step)⟩

/-! ### retargetref01_Power: function 30 -/
def retargetref01_Power.l0 : Nat → Int → Int → Int → Option (Int)
 | 0, _, _, _ => none
 | k + 1, x0, x3, x4 => if x4 < x0 then (retargetref01_Power.l0 k x0 (IntKind.u64.wrap (x3 + x3)) (wrap64 (x4 + 1))) else (some x3)
def retargetref01_Power.f (k : Nat) (a0 : Int) : Option (Int) := retargetref01_Power.l0 k a0 1 0
theorem retargetref01_Power.mono_l : ∀ k, (∀ y0 y1 y2, LeO (retargetref01_Power.l0 k y0 y1 y2) (retargetref01_Power.l0 (k + 1) y0 y1 y2))
 | 0 => fun _ _ _ r h => by simp [retargetref01_Power.l0] at h
 | k + 1 => by
  have ih0 := retargetref01_Power.mono_l k
  ·intro y0 y1 y2
   unfold retargetref01_Power.l0
   repeat' first
   | (with_reducible exact ih0 _ _ _)
   | (with_reducible exact LeO.refl _)
   | (with_reducible exact LeO.none _)
   | (with_reducible refine LeO.ite ?_ ?_)
   | (with_reducible refine LeO.bind ?_ (fun _ => ?_))
   | exact ih0 _ _ _
   | exact LeO.none _
   | refine LeO.ite ?_ ?_
   | refine LeO.bind ?_ (fun _ => ?_)
theorem retargetref01_Power.mono : ∀ a0 k, LeO (retargetref01_Power.f k a0) (retargetref01_Power.f (k + 1) a0) := by
 intro a0 k
 have ih0 := retargetref01_Power.mono_l k
 unfold retargetref01_Power.f
 repeat' first
   | (with_reducible exact ih0 _ _ _)
   | (with_reducible exact LeO.refl _)
   | (with_reducible exact LeO.none _)
   | (with_reducible refine LeO.ite ?_ ?_)
   | (with_reducible refine LeO.bind ?_ (fun _ => ?_))
   | exact ih0 _ _ _
   | exact LeO.none _
   | refine LeO.ite ?_ ?_
   | refine LeO.bind ?_ (fun _ => ?_)
set_option maxHeartbeats 8000000 in
set_option maxRecDepth 100000 in
theorem retargetref01_Power.calls (k : Nat) (a0 : Int) (r : Int) (w : World) (h : retargetref01_Power.f k a0 = some r) :
  Calls Try.prog 30 #[.int .i64 a0] w fun e w' => e = .returned (.int .u64 r) ∧ Drawn0 w w' := by
 have H : (retargetref01_Power.l0 k a0 1 0) = some r := h
 clear h
 have H' := Aside0.mk H
 clear H
 go_enter Try.func30, Try.ntmps30
 go_wp2
 go_loopg [3, 4] k (fun kq v3 v4 w' => ∃ (x3_1 : Int) (x4_1 : Int), v3 = .int .u64 x3_1 ∧ v4 = .int .i64 x4_1 ∧ Aside0 (retargetref01_Power.l0 kq a0 x3_1 x4_1 = some r) ∧ Aside0 (kq ≤ k) ∧ Drawn0 w w')
 case atStart => exact ⟨(1), (0), q4_, q4_, H', ⟨Nat.le_refl _⟩, by repeat (first | exact Drawn0.refl _ | apply Drawn0.step)⟩
 case round =>
  clear H'
  obtain ⟨x3_1, x4_1, rfl, rfl, HA, HK1, ⟨m1, rfl⟩⟩ := hrel
  cases gk with
  | zero => exact absurd HA.out (by simp [retargetref01_Power.l0])
  | succ k1 =>
   have H := HA.out
   clear HA
   simp only [retargetref01_Power.l0] at H
   by_cases c2 : x4_1 < a0
   ·rw [if_pos c2] at H
    have c2b0 : decide (x4_1 < a0) = true := decide_eq_true c2
    clear c2
    have H' := Aside0.mk H
    clear H
    go_wp2
    go_roundg k1
    case measure => have := HK1.out; omega
    case rel => exact ⟨(IntKind.u64.wrap (x3_1 + x3_1)), (wrap64 (x4_1 + 1)), q4_, q4_, H', ⟨by have := HK1.out; omega⟩, by repeat (first | exact Drawn0.refl _ | apply Drawn0.step)⟩
   ·rw [if_neg c2] at H
    have c2b0 : decide (x4_1 < a0) = false := decide_eq_false c2
    clear c2
    obtain rfl := Option.some.inj H
    go_wp2
    go_ret
    exact ⟨by first | rfl | (simp; done) | (simp [*]; done), by repeat (first | exact Drawn0.refl _ | apply Drawn0.step)⟩

/-! ### retargetref01_Ok: function 19 -/
def retargetref01_Ok.f (k : Nat) (a0 : Int) (a1 : Int) : Option (Bool) := (retargetref01_Wide.f a0).bind fun t132 => (if t132 = true then (if a0 = 64 then (some true) else ((retargetref01_Power.f k a0).bind fun t133 => (some (decide (a1 < t133))))) else (some false))
theorem retargetref01_Ok.mono : ∀ a0 a1 k, LeO (retargetref01_Ok.f k a0 a1) (retargetref01_Ok.f (k + 1) a0 a1) := by
 intro a0 a1 k
 unfold retargetref01_Ok.f
 repeat' first
   | (with_reducible exact retargetref01_Power.mono _ _)
   | (with_reducible exact LeO.refl _)
   | (with_reducible exact LeO.none _)
   | (with_reducible refine LeO.ite ?_ ?_)
   | (with_reducible refine LeO.bind ?_ (fun _ => ?_))
   | exact retargetref01_Power.mono _ _
   | exact LeO.none _
   | refine LeO.ite ?_ ?_
   | refine LeO.bind ?_ (fun _ => ?_)
set_option maxHeartbeats 8000000 in
set_option maxRecDepth 100000 in
theorem retargetref01_Ok.calls (k : Nat) (a0 : Int) (a1 : Int) (r : Bool) (w : World) (h : retargetref01_Ok.f k a0 a1 = some r) :
  Calls Try.prog 19 #[.int .i64 a0, .int .u64 a1] w fun e w' => e = .returned (.bool r) ∧ Drawn0 w w' := by
 have H : ((retargetref01_Wide.f a0).bind fun t132 => (if t132 = true then (if a0 = 64 then (some true) else ((retargetref01_Power.f k a0).bind fun t133 => (some (decide (a1 < t133))))) else (some false))) = some r := h
 clear h
 replace H := Option.bind_eq_some_iff.mp H
 obtain ⟨t132, A30, H⟩ := H
 replace H : (if t132 = true then (if a0 = 64 then (some true) else ((retargetref01_Power.f k a0).bind fun t133 => (some (decide (a1 < t133))))) else (some false)) = some r := H
 have A3 := Aside0.mk A30
 clear A30
 by_cases c4 : t132 = true
 ·subst c4
  have H1 : (if a0 = 64 then (some true) else ((retargetref01_Power.f k a0).bind fun t133 => (some (decide (a1 < t133))))) = some r := by rw [if_pos rfl] at H; exact H
  clear H
  have H := H1
  clear H1
  by_cases c5 : a0 = 64
  ·rw [if_pos c5] at H
   have c5b0 : (a0 == 64) = true := beq_iff_eq.mpr c5
   have c5b1 : (a0 != 64) = false := bne_eq_false_iff_eq.mpr c5
   clear c5
   obtain rfl := Option.some.inj H
   go_enter Try.func19, Try.ntmps19
   go_wp2_with (first | ((with_reducible refine gate_callee (f := 29) rfl ?_); refine goesL_ (some 6) rfl rfl Try.func29 (by kernel_rfl) rfl #[.int .i64 a0] rfl q1_ ?_; (with_reducible refine (retargetref01_Wide.calls a0 true _ A3.out).mono ?_); rintro e w' ⟨rfl, ⟨nd, rfl⟩⟩; refine ⟨_, rfl, ?_⟩))
   go_ret
   exact ⟨by first | rfl | (simp; done) | (simp [*]; done), by repeat (first | exact Drawn0.refl _ | apply Drawn0.step)⟩
  ·rw [if_neg c5] at H
   have c5b0 : (a0 == 64) = false := beq_eq_false_iff_ne.mpr c5
   have c5b1 : (a0 != 64) = true := bne_iff_ne.mpr c5
   replace H := Option.bind_eq_some_iff.mp H
   obtain ⟨t133, A60, H⟩ := H
   replace H : (some (decide (a1 < t133))) = some r := H
   have A6 := Aside0.mk A60
   clear A60
   obtain rfl := Option.some.inj H
   go_enter Try.func19, Try.ntmps19
   go_wp2_with (first | ((with_reducible refine gate_callee (f := 29) rfl ?_); refine goesL_ (some 6) rfl rfl Try.func29 (by kernel_rfl) rfl #[.int .i64 a0] rfl q1_ ?_; (with_reducible refine (retargetref01_Wide.calls a0 true _ A3.out).mono ?_); rintro e w' ⟨rfl, ⟨nd, rfl⟩⟩; refine ⟨_, rfl, ?_⟩) | (go_at_call 30; (with_reducible refine (retargetref01_Power.calls k a0 t133 _ A6.out).mono ?_); rintro e w' ⟨rfl, ⟨nd, rfl⟩⟩))
   go_ret
   exact ⟨by first | rfl | (simp; done) | (simp [*]; done), by repeat (first | exact Drawn0.refl _ | apply Drawn0.step)⟩
 ·replace c4 := Bool.eq_false_iff.mpr c4
  subst c4
  have H1 : (some false) = some r := by rw [if_neg (show ¬ (false = true) by decide)] at H; exact H
  clear H
  have H := H1
  clear H1
  obtain rfl := Option.some.inj H
  go_enter Try.func19, Try.ntmps19
  go_wp2_with (first | ((with_reducible refine gate_callee (f := 29) rfl ?_); refine goesL_ (some 6) rfl rfl Try.func29 (by kernel_rfl) rfl #[.int .i64 a0] rfl q1_ ?_; (with_reducible refine (retargetref01_Wide.calls a0 false _ A3.out).mono ?_); rintro e w' ⟨rfl, ⟨nd, rfl⟩⟩; refine ⟨_, rfl, ?_⟩))
  go_ret
  exact ⟨by first | rfl | (simp; done) | (simp [*]; done), by repeat (first | exact Drawn0.refl _ | apply Drawn0.step)⟩

end Go.Proofs.Ytpogkinegkfokaa.MInterpretStores
