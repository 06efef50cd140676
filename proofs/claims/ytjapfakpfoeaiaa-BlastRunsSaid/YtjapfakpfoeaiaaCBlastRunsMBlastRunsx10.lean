/- Functions of the program as Lean functions, and of each a proof that the Go code comes to just its answers. Laid for this claim by wip/drive.py of this repo (our driver over the kit's printing program); no text of print.sh. No condition. -/
import Derived.Test.YtjapfakpfoeaiaaCBlastRunsMBlastRunsx0
import Derived.Test.YtjapfakpfoeaiaaCBlastRunsMBlastRunsx9
namespace Go.Proofs.Ytjapfakpfoeaiaa.MBlastRuns
open Go.Proofs.Ytjapfakpfoeaiaa.Zed Go.RowKit Go.Proofs.YtjapfakpfoeaiaaW.PrintWords Go.Proofs.YtjapfakpfoeaiaaW.PrintLast Go.Proofs.YtjapfakpfoeaiaaW.PrintMore
attribute [local go_sem] max2_int min2_int max_two min_two max_three min_three max_four min_four   -- for this text's walks alone
set_option linter.unusedVariables false
set_option linter.unusedSimpArgs false

/-! ### retargetref02_Variable: function 33 -/
def retargetref02_Variable.j0 : Nat → ByteArray → Bool → Option (Bool)
 | 0, _, _ => none
 | k + 1, x0, x10 => if x10 = true then (if 2 ≤ (x0.size : Int) then ((retargetref01_Name.f k (x0.extract 2 x0.size)).bind fun t146 => (some t146)) else (none)) else ((retargetref01_Name.f k x0).bind fun t147 => (some t147))
def retargetref02_Variable.f (k : Nat) (a0 : ByteArray) : Option (Bool) := if (a0.size : Int) > 2 then (if 0 ≤ 2 then (if 2 ≤ (a0.size : Int) then (retargetref02_Variable.j0 k a0 ((a0.extract 0 2).toList == ([114, 46] : List UInt8))) else (none)) else (none)) else (retargetref02_Variable.j0 k a0 false)
theorem retargetref02_Variable.mono_l : ∀ k, (∀ y0 y1, LeO (retargetref02_Variable.j0 k y0 y1) (retargetref02_Variable.j0 (k + 1) y0 y1))
 | 0 => fun _ _ r h => by simp [retargetref02_Variable.j0] at h
 | k + 1 => by
  have ih0 := retargetref02_Variable.mono_l k
  ·intro y0 y1
   unfold retargetref02_Variable.j0
   repeat' first
   | (with_reducible exact ih0 _ _)
   | (with_reducible exact retargetref01_Name.mono _ _)
   | (with_reducible exact LeO.refl _)
   | (with_reducible exact LeO.none _)
   | (with_reducible refine LeO.ite ?_ ?_)
   | (with_reducible refine LeO.bind ?_ (fun _ => ?_))
   | exact ih0 _ _
   | exact retargetref01_Name.mono _ _
   | exact LeO.none _
   | refine LeO.ite ?_ ?_
   | refine LeO.bind ?_ (fun _ => ?_)
theorem retargetref02_Variable.mono : ∀ a0 k, LeO (retargetref02_Variable.f k a0) (retargetref02_Variable.f (k + 1) a0) := by
 intro a0 k
 have ih0 := retargetref02_Variable.mono_l k
 unfold retargetref02_Variable.f
 repeat' first
   | (with_reducible exact ih0 _ _)
   | (with_reducible exact retargetref01_Name.mono _ _)
   | (with_reducible exact LeO.refl _)
   | (with_reducible exact LeO.none _)
   | (with_reducible refine LeO.ite ?_ ?_)
   | (with_reducible refine LeO.bind ?_ (fun _ => ?_))
   | exact ih0 _ _
   | exact retargetref01_Name.mono _ _
   | exact LeO.none _
   | refine LeO.ite ?_ ?_
   | refine LeO.bind ?_ (fun _ => ?_)
set_option maxHeartbeats 8000000 in
set_option maxRecDepth 100000 in
theorem retargetref02_Variable.calls (k : Nat) (a0 : ByteArray) (r : Bool) (w : World) (h : retargetref02_Variable.f k a0 = some r) :
  Calls Try.prog 33 #[.string a0] w fun e w' => e = .returned (.bool r) ∧ Drawn0 w w' := by
 have H : (if (a0.size : Int) > 2 then (if 0 ≤ 2 then (if 2 ≤ (a0.size : Int) then (retargetref02_Variable.j0 k a0 ((a0.extract 0 2).toList == ([114, 46] : List UInt8))) else (none)) else (none)) else (retargetref02_Variable.j0 k a0 false)) = some r := h
 clear h
 have HC2 := Aside0.mk H
 clear H
 go_enter Try.func33, Try.ntmps33
 go_upto_region 1 with (fail)
 go_cut [10] (fun v10 wc => ∃ (kq : Nat) (x10_1 : Bool), v10 = .bool x10_1 ∧ Aside0 (retargetref02_Variable.j0 kq a0 x10_1 = some r) ∧ Aside0 (kq ≤ k) ∧ Drawn0 w wc)
 case first =>
  have H := HC2.out
  clear HC2
  by_cases c3 : (a0.size : Int) > 2
  ·rw [if_pos c3] at H
   have c3b0 : decide (2 < (a0.size : Int)) = true := decide_eq_true c3
   have c3b1 : decide (2 < a0.size) = true := decide_eq_true (by omega)
   clear c3
   (first | rw [c3b0] | (simp only [i64_w, i32_w]; rw [c3b0]) | skip)
   by_cases c4 : 0 ≤ 2
   ·rw [if_pos c4] at H
    have c4b0 := eq_true c4
    have c4b1 : decide (0 ≤ 2) = true := decide_eq_true c4
    clear c4
    by_cases c5 : 2 ≤ (a0.size : Int)
    ·rw [if_pos c5] at H
     have c5b0 := eq_true c5
     have c5b1 : decide (2 ≤ (a0.size : Int)) = true := decide_eq_true c5
     clear c5
     have H' := Aside0.mk H
     clear H
     go_wp2
     go_meet
     case rel => exact ⟨_, (((a0.extract 0 2).toList == ([114, 46] : List UInt8))), q13_, H', ⟨by first | omega | exact Nat.le_refl _⟩, by repeat (first | exact Drawn0.refl _ | apply Drawn0.step)⟩
    ·rw [if_neg c5] at H
     exact absurd H (by simp)
   ·rw [if_neg c4] at H
    exact absurd H (by simp)
  ·rw [if_neg c3] at H
   have c3b0 : decide (2 < (a0.size : Int)) = false := decide_eq_false c3
   have c3b1 : decide (2 < a0.size) = false := decide_eq_false (by omega)
   clear c3
   (first | rw [c3b0] | (simp only [i64_w, i32_w]; rw [c3b0]) | skip)
   have H' := Aside0.mk H
   clear H
   go_wp2
   go_meet
   case rel => exact ⟨_, (false), q13_, H', ⟨by first | omega | exact Nat.le_refl _⟩, by repeat (first | exact Drawn0.refl _ | apply Drawn0.step)⟩
 case rest =>
  clear HC2
  try clear p2
  try clear c3
  try clear c3b0
  try clear c3b1
  try clear c4
  try clear c4b0
  try clear c4b1
  try clear c5
  try clear c5b0
  try clear c5b1
  obtain ⟨kq, x10_1, rfl, HA, HJ1, ⟨mc1, rfl⟩⟩ := hcut
  cases kq with
  | zero => exact absurd HA.out (by simp [retargetref02_Variable.j0])
  | succ kj1 =>
   have H := HA.out
   clear HA
   simp only [retargetref02_Variable.j0] at H
   by_cases c6 : x10_1 = true
   ·subst c6
    have H1 : (if 2 ≤ (a0.size : Int) then ((retargetref01_Name.f kj1 (a0.extract 2 a0.size)).bind fun t146 => (some t146)) else (none)) = some r := by rw [if_pos rfl] at H; exact H
    clear H
    have H := H1
    clear H1
    by_cases c7 : 2 ≤ (a0.size : Int)
    ·rw [if_pos c7] at H
     have c7b0 := eq_true c7
     have c7b1 : decide (2 ≤ (a0.size : Int)) = true := decide_eq_true c7
     clear c7
     replace H := Option.bind_eq_some_iff.mp H
     obtain ⟨t146, A80, H⟩ := H
     replace H : (some t146) = some r := H
     have A8 := Aside0.mk A80
     clear A80
     obtain rfl := Option.some.inj H
     go_wp2_with (first | ((with_reducible refine gate_callee (f := 39) rfl ?_); refine goesL_ (some 13) rfl rfl Try.func39 q37_ rfl #[.string (a0.extract 2 a0.size)] rfl q2_ ?_; (with_reducible refine (retargetref01_Name.calls kj1 (a0.extract 2 a0.size) t146 _ A8.out).mono ?_); rintro e w' ⟨rfl, ⟨nd, rfl⟩⟩; refine ⟨_, rfl, ?_⟩))
     go_ret
     exact ⟨by first | rfl | (simp; done) | (simp [*]; done), by repeat (first | exact Drawn0.refl _ | apply Drawn0.step)⟩
    ·rw [if_neg c7] at H
     exact absurd H (by simp)
   ·replace c6 := Bool.eq_false_iff.mpr c6
    subst c6
    have H1 : ((retargetref01_Name.f kj1 a0).bind fun t147 => (some t147)) = some r := by rw [if_neg (show ¬ (false = true) by decide)] at H; exact H
    clear H
    have H := H1
    clear H1
    replace H := Option.bind_eq_some_iff.mp H
    obtain ⟨t147, A90, H⟩ := H
    replace H : (some t147) = some r := H
    have A9 := Aside0.mk A90
    clear A90
    obtain rfl := Option.some.inj H
    go_wp2_with (first | ((with_reducible refine gate_callee (f := 39) rfl ?_); refine goesL_ (some 15) rfl rfl Try.func39 q37_ rfl #[.string a0] rfl q2_ ?_; (with_reducible refine (retargetref01_Name.calls kj1 a0 t147 _ A9.out).mono ?_); rintro e w' ⟨rfl, ⟨nd, rfl⟩⟩; refine ⟨_, rfl, ?_⟩))
    go_ret
    exact ⟨by first | rfl | (simp; done) | (simp [*]; done), by repeat (first | exact Drawn0.refl _ | apply Drawn0.step)⟩

end Go.Proofs.Ytjapfakpfoeaiaa.MBlastRuns
