/- Functions of the program as Lean functions, and of each a proof that the Go code comes to just its answers. Laid for this claim by wip/drive.py of this repo (our driver over the kit's printing program); no text of print.sh. No condition. -/
import Derived.Test.YtpogkinegkfokaaCISMInterpretStoresx0
import Derived.Test.YtpogkinegkfokaaCISMInterpretStoresx3
namespace Go.Proofs.Ytpogkinegkfokaa.MInterpretStores
open Go.Proofs.Ytpogkinegkfokaa.Zed Go.RowKit Go.Proofs.YtpogkinegkfokaaW.PrintWords Go.Proofs.YtpogkinegkfokaaW.PrintLast Go.Proofs.YtpogkinegkfokaaW.PrintMore
attribute [local go_sem] max2_int min2_int max_two min_two max_three min_three max_four min_four   -- for this text's walks alone
set_option linter.unusedVariables false
set_option linter.unusedSimpArgs false

/-! ### retargetref19_put: function 20 -/
mutual
def retargetref19_put.j1 : Nat → List (S36) → Int → Int → List (S36) → Option ((List (S36)))
 | 0, _, _, _, _ => none
 | k + 1, x0, x1, x2, x7 => if x2 = 0 then (retargetref19_put.j2 k x0 x1 x7) else (if x7.length < 8796093022208 then (retargetref19_put.j2 k x0 x1 (x7 ++ [(⟨x1, x2⟩ : S36)])) else (none))
def retargetref19_put.j2 : Nat → List (S36) → Int → List (S36) → Option ((List (S36)))
 | 0, _, _, _ => none
 | k + 1, x0, x1, x7 => retargetref19_put.l1 k x0 x1 x7 0
def retargetref19_put.l1 : Nat → List (S36) → Int → List (S36) → Int → Option ((List (S36)))
 | 0, _, _, _, _ => none
 | k + 1, x0, x1, x7, x9 => if x9 < (x0.length : Int) then (if 0 ≤ x9 then (if ((rd_T36 x0 x9).f0) > x1 then (if x7.length < 8796093022208 then (retargetref19_put.l1 k x0 x1 (x7 ++ [(⟨(rd_T36 x0 x9).f0, (rd_T36 x0 x9).f1⟩ : S36)]) (wrap64 (x9 + 1))) else (none)) else (retargetref19_put.l1 k x0 x1 x7 (wrap64 (x9 + 1)))) else (none)) else (some x7)
def retargetref19_put.l0 : Nat → List (S36) → Int → Int → List (S36) → Int → Option ((List (S36)))
 | 0, _, _, _, _, _ => none
 | k + 1, x0, x1, x2, x7, x8 => if x8 < (x0.length : Int) then (if 0 ≤ x8 then (if ((rd_T36 x0 x8).f0) < x1 then (if x7.length < 8796093022208 then (retargetref19_put.l0 k x0 x1 x2 (x7 ++ [(⟨(rd_T36 x0 x8).f0, (rd_T36 x0 x8).f1⟩ : S36)]) (wrap64 (x8 + 1))) else (none)) else (retargetref19_put.j1 k x0 x1 x2 x7)) else (none)) else (retargetref19_put.j1 k x0 x1 x2 x7)
end
def retargetref19_put.f (k : Nat) (l0 : List (S36)) (a1 : Int) (a2 : Int) : Option ((List (S36))) := retargetref19_put.l0 k l0 a1 a2 ([] : List (S36)) 0
theorem retargetref19_put.mono_l : ∀ k, (∀ y0 y1 y2 y3, LeO (retargetref19_put.j1 k y0 y1 y2 y3) (retargetref19_put.j1 (k + 1) y0 y1 y2 y3)) ∧ (∀ y0 y1 y2, LeO (retargetref19_put.j2 k y0 y1 y2) (retargetref19_put.j2 (k + 1) y0 y1 y2)) ∧ (∀ y0 y1 y2 y3, LeO (retargetref19_put.l1 k y0 y1 y2 y3) (retargetref19_put.l1 (k + 1) y0 y1 y2 y3)) ∧ (∀ y0 y1 y2 y3 y4, LeO (retargetref19_put.l0 k y0 y1 y2 y3 y4) (retargetref19_put.l0 (k + 1) y0 y1 y2 y3 y4))
 | 0 => ⟨fun _ _ _ _ r h => by simp [retargetref19_put.j1] at h, fun _ _ _ r h => by simp [retargetref19_put.j2] at h, fun _ _ _ _ r h => by simp [retargetref19_put.l1] at h, fun _ _ _ _ _ r h => by simp [retargetref19_put.l0] at h⟩
 | k + 1 => by
  obtain ⟨ih0, ih1, ih2, ih3⟩ := retargetref19_put.mono_l k
  refine ⟨?_, ?_, ?_, ?_⟩
  ·intro y0 y1 y2 y3
   unfold retargetref19_put.j1
   repeat' first
   | (with_reducible exact ih0 _ _ _ _)
   | (with_reducible exact ih1 _ _ _)
   | (with_reducible exact ih2 _ _ _ _)
   | (with_reducible exact ih3 _ _ _ _ _)
   | (with_reducible exact LeO.refl _)
   | (with_reducible exact LeO.none _)
   | (with_reducible refine LeO.ite ?_ ?_)
   | (with_reducible refine LeO.bind ?_ (fun _ => ?_))
   | exact ih0 _ _ _ _
   | exact ih1 _ _ _
   | exact ih2 _ _ _ _
   | exact ih3 _ _ _ _ _
   | exact LeO.none _
   | refine LeO.ite ?_ ?_
   | refine LeO.bind ?_ (fun _ => ?_)
  ·intro y0 y1 y2
   unfold retargetref19_put.j2
   repeat' first
   | (with_reducible exact ih0 _ _ _ _)
   | (with_reducible exact ih1 _ _ _)
   | (with_reducible exact ih2 _ _ _ _)
   | (with_reducible exact ih3 _ _ _ _ _)
   | (with_reducible exact LeO.refl _)
   | (with_reducible exact LeO.none _)
   | (with_reducible refine LeO.ite ?_ ?_)
   | (with_reducible refine LeO.bind ?_ (fun _ => ?_))
   | exact ih0 _ _ _ _
   | exact ih1 _ _ _
   | exact ih2 _ _ _ _
   | exact ih3 _ _ _ _ _
   | exact LeO.none _
   | refine LeO.ite ?_ ?_
   | refine LeO.bind ?_ (fun _ => ?_)
  ·intro y0 y1 y2 y3
   unfold retargetref19_put.l1
   repeat' first
   | (with_reducible exact ih0 _ _ _ _)
   | (with_reducible exact ih1 _ _ _)
   | (with_reducible exact ih2 _ _ _ _)
   | (with_reducible exact ih3 _ _ _ _ _)
   | (with_reducible exact LeO.refl _)
   | (with_reducible exact LeO.none _)
   | (with_reducible refine LeO.ite ?_ ?_)
   | (with_reducible refine LeO.bind ?_ (fun _ => ?_))
   | exact ih0 _ _ _ _
   | exact ih1 _ _ _
   | exact ih2 _ _ _ _
   | exact ih3 _ _ _ _ _
   | exact LeO.none _
   | refine LeO.ite ?_ ?_
   | refine LeO.bind ?_ (fun _ => ?_)
  ·intro y0 y1 y2 y3 y4
   unfold retargetref19_put.l0
   repeat' first
   | (with_reducible exact ih0 _ _ _ _)
   | (with_reducible exact ih1 _ _ _)
   | (with_reducible exact ih2 _ _ _ _)
   | (with_reducible exact ih3 _ _ _ _ _)
   | (with_reducible exact LeO.refl _)
   | (with_reducible exact LeO.none _)
   | (with_reducible refine LeO.ite ?_ ?_)
   | (with_reducible refine LeO.bind ?_ (fun _ => ?_))
   | exact ih0 _ _ _ _
   | exact ih1 _ _ _
   | exact ih2 _ _ _ _
   | exact ih3 _ _ _ _ _
   | exact LeO.none _
   | refine LeO.ite ?_ ?_
   | refine LeO.bind ?_ (fun _ => ?_)
theorem retargetref19_put.mono : ∀ a0 a1 a2 k, LeO (retargetref19_put.f k a0 a1 a2) (retargetref19_put.f (k + 1) a0 a1 a2) := by
 intro a0 a1 a2 k
 obtain ⟨ih0, ih1, ih2, ih3⟩ := retargetref19_put.mono_l k
 unfold retargetref19_put.f
 repeat' first
   | (with_reducible exact ih0 _ _ _ _)
   | (with_reducible exact ih1 _ _ _)
   | (with_reducible exact ih2 _ _ _ _)
   | (with_reducible exact ih3 _ _ _ _ _)
   | (with_reducible exact LeO.refl _)
   | (with_reducible exact LeO.none _)
   | (with_reducible refine LeO.ite ?_ ?_)
   | (with_reducible refine LeO.bind ?_ (fun _ => ?_))
   | exact ih0 _ _ _ _
   | exact ih1 _ _ _
   | exact ih2 _ _ _ _
   | exact ih3 _ _ _ _ _
   | exact LeO.none _
   | refine LeO.ite ?_ ?_
   | refine LeO.bind ?_ (fun _ => ?_)
set_option maxHeartbeats 8000000 in
set_option maxRecDepth 100000 in
theorem retargetref19_put.calls (k : Nat) (A0 : Option Addr) (c0 : Nat) (l0 : List (S36)) (a1 : Int) (a2 : Int) (r : List (S36)) (w : World) (hr0 : Kd.C k36 w A0 l0.length l0) (hc0 : l0.length ≤ c0) (h : retargetref19_put.f k l0 a1 a2 = some r) :
  Calls Try.prog 20 #[.slice A0 l0.length c0, .int .u64 a1, .int .u8 a2] w fun e w' => ∃ v0_ : Value, e = .returned (v0_) ∧ Kd.R k36 36 w' w.heap.size (fun _ => True) v0_ r ∧ Below w.heap.size w w' := by
 have hu36 := Try.underlying36
 have HR0 := Aside0.mk hr0
 have HC0 := Aside0.mk hc0
 clear hr0 hc0
 have HB := Aside0.mk (Below.refl w.heap.size w)
 have H : (retargetref19_put.l0 k l0 a1 a2 ([] : List (S36)) 0) = some r := h
 clear h
 have HC4 := Aside0.mk H
 clear H
 go_enter Try.func20, Try.ntmps20
 go_upto_block 0 with (fail)
 go_cut [7] (fun v7 wc => ∃ (kq : Nat) (x7_3 : List (S36)), Aside0 (retargetref19_put.j1 kq l0 a1 a2 x7_3 = some r) ∧ Aside0 (kq ≤ k) ∧ Aside0 (Kd.R k36 36 wc w.heap.size (fun _ => True) v7 x7_3) ∧ Aside0 (Below w.heap.size w wc))
 case first =>
  have H := HC4.out
  clear HC4
  have H' := Aside0.mk H
  clear H
  go_wp2
  go_loopg [7, 8] k (fun kq v7 v8 w' => ∃ (x7_1 : List (S36)) (x8_1 : Int), v8 = .int .i64 x8_1 ∧ Aside0 (retargetref19_put.l0 kq l0 a1 a2 x7_1 x8_1 = some r) ∧ Aside0 (kq ≤ k) ∧ Aside0 (Kd.R k36 36 w' w.heap.size (fun _ => True) v7 x7_1) ∧ Aside0 (Below w.heap.size w w'))
  case atStart => exact ⟨(([] : List (S36))), (0), q4_, H', ⟨Nat.le_refl _⟩, ⟨by first | exact Kd.R_nil _ _ _ _ _ | exact Kd.N_nil _ _ _ _ _ | exact Kd.V_nil _ _ _ _ _ | exact Kd.Q_nil _ _ _ _ _ | exact Kd.S_nil _ _ _ _ _⟩, ⟨by repeat (first | (with_reducible first | exact HB.out | apply below_alloc | apply pw_below_drewN | apply below_drew1) | exact HB.out)⟩⟩
  case round =>
   clear H'
   try clear c2
   try clear p2
   obtain ⟨x7_1, x8_1, rfl, HA, HK1, HO_7, HB⟩ := hrel
   cases gk with
   | zero => exact absurd HA.out (by simp [retargetref19_put.l0])
   | succ k1 =>
    have H := HA.out
    clear HA
    simp only [retargetref19_put.l0] at H
    by_cases c5 : x8_1 < (l0.length : Int)
    ·rw [if_pos c5] at H
     have c5b0 : decide (x8_1 < (l0.length : Int)) = true := decide_eq_true c5
     clear c5
     (first | rw [c5b0] | (simp only [i64_w, i32_w]; rw [c5b0]) | skip)
     by_cases c6 : 0 ≤ x8_1
     ·rw [if_pos c6] at H
      have c6b0 : decide (0 ≤ x8_1) = true := decide_eq_true c6
      clear c6
      by_cases c7 : ((rd_T36 l0 x8_1).f0) < a1
      ·rw [if_pos c7] at H
       have c7b0 : decide (((rd_T36 l0 x8_1).f0) < a1) = true := decide_eq_true c7
       clear c7
       by_cases c8 : x7_1.length < 8796093022208
       ·rw [if_pos c8] at H
        have LMc8 := Aside0.mk c8
        clear c8
        obtain ⟨y136, hy136⟩ : ∃ y_ : List (S36), y_ = (x7_1 ++ [(⟨(rd_T36 l0 x8_1).f0, (rd_T36 l0 x8_1).f1⟩ : S36)]) := ⟨_, rfl⟩
        replace H : (retargetref19_put.l0 k1 l0 a1 a2 y136 (wrap64 (x8_1 + 1))) = some r := by first | (rw [hy136]; with_reducible exact H) | (have H2_ := (Option.bind_some _ _).symm.trans H; rw [hy136]; with_reducible exact H2_) | (have H2_ := (Option.bind_some _ _).symm.trans H; with_reducible exact H2_) | with_reducible exact H | (rw [hy136]; exact H) | exact H
        have Ny136 := Aside0.mk hy136
        clear hy136
        have H' := Aside0.mk H
        clear H
        have p134 : 0 ≤ (x8_1 : Int) := of_decide_eq_true q2_
        have q134 : x8_1 < (l0.length : Int) := of_decide_eq_true q2_
        obtain ⟨ad134, e134, hx134_0, hx134_1⟩ := at_T36 HR0.out x8_1 p134 q134
        cases e134
        replace hx134_0 := (HB.out.cell (World.block_lt_of_cell? w _ hx134_0)).trans hx134_0
        replace hx134_1 := (HB.out.cell (World.block_lt_of_cell? w _ hx134_1)).trans hx134_1
        replace p134 := eq_true p134
        replace q134 := eq_true q134
        have p135 : 0 ≤ (x8_1 : Int) := of_decide_eq_true q2_
        have q135 : x8_1 < (l0.length : Int) := of_decide_eq_true q2_
        obtain ⟨ad135, e135, hx135_0, hx135_1⟩ := at_T36 HR0.out x8_1 p135 q135
        obtain rfl : ad134 = ad135 := (by injection e135)
        replace hx135_0 := (HB.out.cell (World.block_lt_of_cell? w _ hx135_0)).trans hx135_0
        replace hx135_1 := (HB.out.cell (World.block_lt_of_cell? w _ hx135_1)).trans hx135_1
        replace p135 := eq_true p135
        replace q135 := eq_true q135
        go_wp2_with (first | ((with_reducible refine gate_builtin (b := .append) (xs := #[.tmp 25, .tmp 30]) rfl ?_); at_builtin; refine Kd.R_append k36 (w0 := w) w.heap.size rfl (.tmp 25) (.tmp 30) 22 36 (.agg #[(.int .u64 0), (.int .u8 0)]) 16 rfl Try.underlying22 info36 rfl (by decide) (by omega) u7 x7_1 (⟨(rd_T36 l0 x8_1).f0, (rd_T36 l0 x8_1).f1⟩ : S36) [.int .u64 ((rd_T36 l0 x8_1).f0), .int .u8 ((rd_T36 l0 x8_1).f1)] (fun _ => True) (fun _ => False) rfl rfl ?aP (fun _ hk => hk.elim) ?aF ?aO ?aB ?aS ?aL ?_; (case aP => exact k36_mkM _ _ _ (⟨(rd_T36 l0 x8_1).f0, (rd_T36 l0 x8_1).f1⟩ : S36)); (case aB => exact q0_); (case aF => exact (fun _ _ => trivial)); (case aO => exact (by (with_reducible repeat (first | apply Kd.R_alloc | apply Kd.R_drewN | apply Kd.R_drew)); exact HO_7.out)); (case aS => exact (below_size q0_)); (case aL => have := LMc8.out; omega); intro v137 w9 ho hb hg hat; rw [← Ny136.out] at ho; have n0_ := Aside0.mk (hb); have n1_ := Aside0.mk (ho); clear HB; clear HO_7; have HB := n0_; have HO138 := n1_; clear n0_ n1_; clear ho hb hg hat))
        go_roundg k1
        case measure => have := HK1.out; omega
        case rel => exact ⟨(y136), (wrap64 (x8_1 + 1)), q4_, H', ⟨by have := HK1.out; omega⟩, ⟨by (with_reducible repeat (first | apply Kd.R_alloc | apply Kd.R_drewN | apply Kd.R_drew)); exact HO138.out⟩, ⟨by repeat (first | (with_reducible first | exact HB.out | apply below_alloc | apply pw_below_drewN | apply below_drew1) | exact HB.out)⟩⟩
       ·rw [if_neg c8] at H
        exact absurd H (by simp)
      ·rw [if_neg c7] at H
       have c7b0 : decide (((rd_T36 l0 x8_1).f0) < a1) = false := decide_eq_false c7
       clear c7
       have H' := Aside0.mk H
       clear H
       have p134 : 0 ≤ (x8_1 : Int) := of_decide_eq_true q2_
       have q134 : x8_1 < (l0.length : Int) := of_decide_eq_true q2_
       obtain ⟨ad134, e134, hx134_0, hx134_1⟩ := at_T36 HR0.out x8_1 p134 q134
       cases e134
       replace hx134_0 := (HB.out.cell (World.block_lt_of_cell? w _ hx134_0)).trans hx134_0
       replace hx134_1 := (HB.out.cell (World.block_lt_of_cell? w _ hx134_1)).trans hx134_1
       replace p134 := eq_true p134
       replace q134 := eq_true q134
       go_wp2
       go_meet
       case rel => exact ⟨_, (x7_1), H', ⟨by have := HK1.out; first | omega | exact Nat.le_refl _⟩, ⟨by (with_reducible repeat (first | apply Kd.R_alloc | apply Kd.R_drewN | apply Kd.R_drew)); exact HO_7.out⟩, ⟨by repeat (first | (with_reducible first | exact HB.out | apply below_alloc | apply pw_below_drewN | apply below_drew1) | exact HB.out)⟩⟩
     ·rw [if_neg c6] at H
      exact absurd H (by simp)
    ·rw [if_neg c5] at H
     have c5b0 : decide (x8_1 < (l0.length : Int)) = false := decide_eq_false c5
     clear c5
     (first | rw [c5b0] | (simp only [i64_w, i32_w]; rw [c5b0]) | skip)
     have H' := Aside0.mk H
     clear H
     go_wp2
     go_meet
     case rel => exact ⟨_, (x7_1), H', ⟨by have := HK1.out; first | omega | exact Nat.le_refl _⟩, ⟨by (with_reducible repeat (first | apply Kd.R_alloc | apply Kd.R_drewN | apply Kd.R_drew)); exact HO_7.out⟩, ⟨by repeat (first | (with_reducible first | exact HB.out | apply below_alloc | apply pw_below_drewN | apply below_drew1) | exact HB.out)⟩⟩
 case rest =>
  clear HC4
  try clear p1
  try clear q1
  try clear hx1
  try clear c2
  try clear p2
  try clear c5
  try clear c5b0
  try clear c6
  try clear c6b0
  try clear p6
  try clear c7
  try clear c7b0
  try clear c8
  try clear hx134_0
  try clear hx134_1
  try clear hx135_0
  try clear hx135_1
  try clear p134
  try clear p135
  try clear p2
  try clear q134
  try clear q135
  obtain ⟨kq, x7_3, HA, HJ3, HO_7, HB⟩ := hcut
  cases kq with
  | zero => exact absurd HA.out (by simp [retargetref19_put.j1])
  | succ kj3 =>
   have H := HA.out
   clear HA
   simp only [retargetref19_put.j1] at H
   have HC10 := Aside0.mk H
   clear H
   go_upto_if 33 with (fail)
   go_cut [7] (fun v7 wc => ∃ (kq : Nat) (x7_9 : List (S36)), Aside0 (retargetref19_put.j2 kq l0 a1 x7_9 = some r) ∧ Aside0 (kq ≤ kj3) ∧ Aside0 (Kd.R k36 36 wc w.heap.size (fun _ => True) v7 x7_9) ∧ Aside0 (Below w.heap.size w wc))
   case first =>
    have H := HC10.out
    clear HC10
    by_cases c11 : a2 = 0
    ·rw [if_pos c11] at H
     have c11b0 : (a2 == 0) = true := beq_iff_eq.mpr c11
     have c11b1 : (a2 != 0) = false := bne_eq_false_iff_eq.mpr c11
     clear c11
     (first | rw [c11b0] | (simp only [i64_w, i32_w]; rw [c11b0]) | skip)
     have H' := Aside0.mk H
     clear H
     go_wp2
     go_meet
     case rel => exact ⟨_, (x7_3), H', ⟨by have := HJ3.out; first | omega | exact Nat.le_refl _⟩, ⟨by (with_reducible repeat (first | apply Kd.R_alloc | apply Kd.R_drewN | apply Kd.R_drew)); exact HO_7.out⟩, ⟨by repeat (first | (with_reducible first | exact HB.out | apply below_alloc | apply pw_below_drewN | apply below_drew1) | exact HB.out)⟩⟩
    ·rw [if_neg c11] at H
     have c11b0 : (a2 == 0) = false := beq_eq_false_iff_ne.mpr c11
     have c11b1 : (a2 != 0) = true := bne_iff_ne.mpr c11
     (first | rw [c11b0] | (simp only [i64_w, i32_w]; rw [c11b0]) | skip)
     by_cases c12 : x7_3.length < 8796093022208
     ·rw [if_pos c12] at H
      have LMc12 := Aside0.mk c12
      clear c12
      obtain ⟨y139, hy139⟩ : ∃ y_ : List (S36), y_ = (x7_3 ++ [(⟨a1, a2⟩ : S36)]) := ⟨_, rfl⟩
      replace H : (retargetref19_put.j2 kj3 l0 a1 y139) = some r := by first | (rw [hy139]; with_reducible exact H) | (have H2_ := (Option.bind_some _ _).symm.trans H; rw [hy139]; with_reducible exact H2_) | (have H2_ := (Option.bind_some _ _).symm.trans H; with_reducible exact H2_) | with_reducible exact H | (rw [hy139]; exact H) | exact H
      have Ny139 := Aside0.mk hy139
      clear hy139
      have H' := Aside0.mk H
      clear H
      go_wp2_with (first | ((with_reducible refine gate_builtin (b := .append) (xs := #[.tmp 34, .tmp 38]) rfl ?_); at_builtin; refine Kd.R_append k36 (w0 := w) w.heap.size rfl (.tmp 34) (.tmp 38) 22 36 (.agg #[(.int .u64 0), (.int .u8 0)]) 16 rfl Try.underlying22 info36 rfl (by decide) (by omega) u7 x7_3 (⟨a1, a2⟩ : S36) [.int .u64 a1, .int .u8 a2] (fun _ => True) (fun _ => False) rfl rfl ?aP (fun _ hk => hk.elim) ?aF ?aO ?aB ?aS ?aL ?_; (case aP => exact k36_mkM _ _ _ (⟨a1, a2⟩ : S36)); (case aB => exact q0_); (case aF => exact (fun _ _ => trivial)); (case aO => exact (by (with_reducible repeat (first | apply Kd.R_alloc | apply Kd.R_drewN | apply Kd.R_drew)); exact HO_7.out)); (case aS => exact (below_size q0_)); (case aL => have := LMc12.out; omega); intro v140 w13 ho hb hg hat; rw [← Ny139.out] at ho; have n0_ := Aside0.mk (hb); have n1_ := Aside0.mk (ho); clear HB; clear HO_7; have HB := n0_; have HO141 := n1_; clear n0_ n1_; clear ho hb hg hat))
      go_meet
      case rel => exact ⟨_, (y139), H', ⟨by have := HJ3.out; first | omega | exact Nat.le_refl _⟩, ⟨by (with_reducible repeat (first | apply Kd.R_alloc | apply Kd.R_drewN | apply Kd.R_drew)); exact HO141.out⟩, ⟨by repeat (first | (with_reducible first | exact HB.out | apply below_alloc | apply pw_below_drewN | apply below_drew1) | exact HB.out)⟩⟩
     ·rw [if_neg c12] at H
      exact absurd H (by simp)
   case rest =>
    clear HC10
    try clear c1
    try clear p1
    try clear q1
    try clear hx1
    try clear c2
    try clear p2
    try clear c5
    try clear c5b0
    try clear c6
    try clear c6b0
    try clear p6
    try clear c7
    try clear c7b0
    try clear c8
    try clear c11
    try clear c11b0
    try clear c11b1
    try clear c12
    try clear p13
    try clear q13
    try clear hx13
    try clear hx134_0
    try clear hx134_1
    try clear hx135_0
    try clear hx135_1
    try clear p1
    try clear p134
    try clear p135
    try clear p2
    try clear p6
    try clear q1
    try clear q134
    try clear q135
    obtain ⟨kq, x7_9, HA, HJ9, HO_7, HB⟩ := hcut
    cases kq with
    | zero => exact absurd HA.out (by simp [retargetref19_put.j2])
    | succ kj9 =>
     have H := HA.out
     clear HA
     simp only [retargetref19_put.j2] at H
     have H' := Aside0.mk H
     clear H
     go_wp2
     go_loopg [7, 9] kj9 (fun kq v7 v9 w' => ∃ (x7_3 : List (S36)) (x9_3 : Int), v9 = .int .i64 x9_3 ∧ Aside0 (retargetref19_put.l1 kq l0 a1 x7_3 x9_3 = some r) ∧ Aside0 (kq ≤ kj9) ∧ Aside0 (Kd.R k36 36 w' w.heap.size (fun _ => True) v7 x7_3) ∧ Aside0 (Below w.heap.size w w'))
     case atStart => exact ⟨(x7_9), (0), q4_, H', ⟨Nat.le_refl _⟩, ⟨by (with_reducible repeat (first | apply Kd.R_alloc | apply Kd.R_drewN | apply Kd.R_drew)); exact HO_7.out⟩, ⟨by repeat (first | (with_reducible first | exact HB.out | apply below_alloc | apply pw_below_drewN | apply below_drew1) | exact HB.out)⟩⟩
     case round =>
      clear H'
      try clear c1
      try clear p1
      try clear q1
      try clear hx1
      try clear c2
      try clear p2
      try clear c5
      try clear c5b0
      try clear c6
      try clear c6b0
      try clear p6
      try clear c7
      try clear c7b0
      try clear c8
      try clear c11
      try clear c11b0
      try clear c11b1
      try clear c12
      try clear p13
      try clear q13
      try clear hx13
      try clear hx134_0
      try clear hx134_1
      try clear hx135_0
      try clear hx135_1
      try clear p1
      try clear p13
      try clear p134
      try clear p135
      try clear p2
      try clear p6
      try clear q1
      try clear q13
      try clear q134
      try clear q135
      obtain ⟨x7_3, x9_3, rfl, HA, HK3, HO_7, HB⟩ := hrel
      cases gk with
      | zero => exact absurd HA.out (by simp [retargetref19_put.l1])
      | succ k3 =>
       have H := HA.out
       clear HA
       simp only [retargetref19_put.l1] at H
       by_cases c14 : x9_3 < (l0.length : Int)
       ·rw [if_pos c14] at H
        have c14b0 : decide (x9_3 < (l0.length : Int)) = true := decide_eq_true c14
        clear c14
        by_cases c15 : 0 ≤ x9_3
        ·rw [if_pos c15] at H
         have c15b0 : decide (0 ≤ x9_3) = true := decide_eq_true c15
         clear c15
         by_cases c16 : ((rd_T36 l0 x9_3).f0) > a1
         ·rw [if_pos c16] at H
          have c16b0 : decide (a1 < ((rd_T36 l0 x9_3).f0)) = true := decide_eq_true c16
          clear c16
          by_cases c17 : x7_3.length < 8796093022208
          ·rw [if_pos c17] at H
           have LMc17 := Aside0.mk c17
           clear c17
           obtain ⟨y144, hy144⟩ : ∃ y_ : List (S36), y_ = (x7_3 ++ [(⟨(rd_T36 l0 x9_3).f0, (rd_T36 l0 x9_3).f1⟩ : S36)]) := ⟨_, rfl⟩
           replace H : (retargetref19_put.l1 k3 l0 a1 y144 (wrap64 (x9_3 + 1))) = some r := by first | (rw [hy144]; with_reducible exact H) | (have H2_ := (Option.bind_some _ _).symm.trans H; rw [hy144]; with_reducible exact H2_) | (have H2_ := (Option.bind_some _ _).symm.trans H; with_reducible exact H2_) | with_reducible exact H | (rw [hy144]; exact H) | exact H
           have Ny144 := Aside0.mk hy144
           clear hy144
           have H' := Aside0.mk H
           clear H
           have p142 : 0 ≤ (x9_3 : Int) := of_decide_eq_true q2_
           have q142 : x9_3 < (l0.length : Int) := of_decide_eq_true q2_
           obtain ⟨ad142, e142, hx142_0, hx142_1⟩ := at_T36 HR0.out x9_3 p142 q142
           cases e142
           replace hx142_0 := (HB.out.cell (World.block_lt_of_cell? w _ hx142_0)).trans hx142_0
           replace hx142_1 := (HB.out.cell (World.block_lt_of_cell? w _ hx142_1)).trans hx142_1
           replace p142 := eq_true p142
           replace q142 := eq_true q142
           have p143 : 0 ≤ (x9_3 : Int) := of_decide_eq_true q2_
           have q143 : x9_3 < (l0.length : Int) := of_decide_eq_true q2_
           obtain ⟨ad143, e143, hx143_0, hx143_1⟩ := at_T36 HR0.out x9_3 p143 q143
           obtain rfl : ad142 = ad143 := (by injection e143)
           replace hx143_0 := (HB.out.cell (World.block_lt_of_cell? w _ hx143_0)).trans hx143_0
           replace hx143_1 := (HB.out.cell (World.block_lt_of_cell? w _ hx143_1)).trans hx143_1
           replace p143 := eq_true p143
           replace q143 := eq_true q143
           go_wp2_with (first | ((with_reducible refine gate_builtin (b := .append) (xs := #[.tmp 53, .tmp 58]) rfl ?_); at_builtin; refine Kd.R_append k36 (w0 := w) w.heap.size rfl (.tmp 53) (.tmp 58) 22 36 (.agg #[(.int .u64 0), (.int .u8 0)]) 16 rfl Try.underlying22 info36 rfl (by decide) (by omega) u7 x7_3 (⟨(rd_T36 l0 x9_3).f0, (rd_T36 l0 x9_3).f1⟩ : S36) [.int .u64 ((rd_T36 l0 x9_3).f0), .int .u8 ((rd_T36 l0 x9_3).f1)] (fun _ => True) (fun _ => False) rfl rfl ?aP (fun _ hk => hk.elim) ?aF ?aO ?aB ?aS ?aL ?_; (case aP => exact k36_mkM _ _ _ (⟨(rd_T36 l0 x9_3).f0, (rd_T36 l0 x9_3).f1⟩ : S36)); (case aB => exact q0_); (case aF => exact (fun _ _ => trivial)); (case aO => exact (by (with_reducible repeat (first | apply Kd.R_alloc | apply Kd.R_drewN | apply Kd.R_drew)); exact HO_7.out)); (case aS => exact (below_size q0_)); (case aL => have := LMc17.out; omega); intro v145 w18 ho hb hg hat; rw [← Ny144.out] at ho; have n0_ := Aside0.mk (hb); have n1_ := Aside0.mk (ho); clear HB; clear HO_7; have HB := n0_; have HO146 := n1_; clear n0_ n1_; clear ho hb hg hat))
           go_roundg k3
           case measure => have := HJ3.out; have := HJ9.out; have := HK3.out; omega
           case rel => exact ⟨(y144), (wrap64 (x9_3 + 1)), q4_, H', ⟨by have := HJ3.out; have := HJ9.out; have := HK3.out; omega⟩, ⟨by (with_reducible repeat (first | apply Kd.R_alloc | apply Kd.R_drewN | apply Kd.R_drew)); exact HO146.out⟩, ⟨by repeat (first | (with_reducible first | exact HB.out | apply below_alloc | apply pw_below_drewN | apply below_drew1) | exact HB.out)⟩⟩
          ·rw [if_neg c17] at H
           exact absurd H (by simp)
         ·rw [if_neg c16] at H
          have c16b0 : decide (a1 < ((rd_T36 l0 x9_3).f0)) = false := decide_eq_false c16
          clear c16
          have H' := Aside0.mk H
          clear H
          have p142 : 0 ≤ (x9_3 : Int) := of_decide_eq_true q2_
          have q142 : x9_3 < (l0.length : Int) := of_decide_eq_true q2_
          obtain ⟨ad142, e142, hx142_0, hx142_1⟩ := at_T36 HR0.out x9_3 p142 q142
          cases e142
          replace hx142_0 := (HB.out.cell (World.block_lt_of_cell? w _ hx142_0)).trans hx142_0
          replace hx142_1 := (HB.out.cell (World.block_lt_of_cell? w _ hx142_1)).trans hx142_1
          replace p142 := eq_true p142
          replace q142 := eq_true q142
          go_wp2
          go_roundg k3
          case measure => have := HJ3.out; have := HJ9.out; have := HK3.out; omega
          case rel => exact ⟨(x7_3), (wrap64 (x9_3 + 1)), q4_, H', ⟨by have := HJ3.out; have := HJ9.out; have := HK3.out; omega⟩, ⟨by (with_reducible repeat (first | apply Kd.R_alloc | apply Kd.R_drewN | apply Kd.R_drew)); exact HO_7.out⟩, ⟨by repeat (first | (with_reducible first | exact HB.out | apply below_alloc | apply pw_below_drewN | apply below_drew1) | exact HB.out)⟩⟩
        ·rw [if_neg c15] at H
         exact absurd H (by simp)
       ·rw [if_neg c14] at H
        have c14b0 : decide (x9_3 < (l0.length : Int)) = false := decide_eq_false c14
        clear c14
        obtain rfl := Option.some.inj H
        go_wp2
        go_ret
        exact ⟨_, by first | rfl | (simp [errW_none, errW_some] <;> rfl) | (simp [*, errW_none, errW_some] <;> rfl), by (with_reducible repeat (first | apply Kd.R_alloc | apply Kd.R_drewN | apply Kd.R_drew)); exact HO_7.out, by repeat (first | (with_reducible first | exact HB.out | apply below_alloc | apply pw_below_drewN | apply below_drew1) | exact HB.out)⟩

/-! ### retargetref19_Store: function 6 -/
mutual
def retargetref19_Store.j0 : Nat → List (S36) → Int → Int → Int → Bool → Option ((List (S36)) × Int)
 | 0, _, _, _, _, _ => none
 | k + 1, x0, x1, x2, x3, x40 => if x40 = true then (some (([] : List (S36)), 2)) else (if ([] : List (S36)).length + x0.length < 8796093022208 then (retargetref19_Store.l0 k x1 x2 x3 (([] : List (S36)) ++ x0) 0) else (none))
def retargetref19_Store.l0 : Nat → Int → Int → Int → List (S36) → Int → Option ((List (S36)) × Int)
 | 0, _, _, _, _, _ => none
 | k + 1, x1, x2, x3, x10, x11 => if x11 < (wrap64 (Int.tdiv x2 8)) then ((retargetref19_put.f k x10 x1 ((Int.tmod x3 256) % 256)).bind fun t155 => (if x1 = 4294967295 then (retargetref19_Store.l0 k 0 x2 (IntKind.u64.wrap (Int.tdiv x3 256)) t155 (wrap64 (x11 + 1))) else (retargetref19_Store.l0 k (IntKind.u64.wrap (x1 + 1)) x2 (IntKind.u64.wrap (Int.tdiv x3 256)) t155 (wrap64 (x11 + 1))))) else (if (x10.length : Int) > 4096 then (some (([] : List (S36)), 20)) else (some (x10, 0)))
end
def retargetref19_Store.f (k : Nat) (l0 : List (S36)) (a1 : Int) (a2 : Int) (a3 : Int) : Option ((List (S36)) × Int) := (retargetref19_Memory.f k l0).bind fun t147 => (if t147 = true then (if a1 > 4294967295 then (retargetref19_Store.j0 k l0 a1 a2 a3 true) else (if a2 = 8 then ((retargetref01_Ok.f k a2 a3).bind fun t148 => (retargetref19_Store.j0 k l0 a1 a2 a3 (!t148))) else (if a2 = 16 then ((retargetref01_Ok.f k a2 a3).bind fun t149 => (retargetref19_Store.j0 k l0 a1 a2 a3 (!t149))) else (if a2 = 32 then ((retargetref01_Ok.f k a2 a3).bind fun t150 => (retargetref19_Store.j0 k l0 a1 a2 a3 (!t150))) else (if a2 = 64 then ((retargetref01_Ok.f k a2 a3).bind fun t151 => (retargetref19_Store.j0 k l0 a1 a2 a3 (!t151))) else (retargetref19_Store.j0 k l0 a1 a2 a3 true)))))) else (retargetref19_Store.j0 k l0 a1 a2 a3 true))
theorem retargetref19_Store.mono_l : ∀ k, (∀ y0 y1 y2 y3 y4, LeO (retargetref19_Store.j0 k y0 y1 y2 y3 y4) (retargetref19_Store.j0 (k + 1) y0 y1 y2 y3 y4)) ∧ (∀ y0 y1 y2 y3 y4, LeO (retargetref19_Store.l0 k y0 y1 y2 y3 y4) (retargetref19_Store.l0 (k + 1) y0 y1 y2 y3 y4))
 | 0 => ⟨fun _ _ _ _ _ r h => by simp [retargetref19_Store.j0] at h, fun _ _ _ _ _ r h => by simp [retargetref19_Store.l0] at h⟩
 | k + 1 => by
  obtain ⟨ih0, ih1⟩ := retargetref19_Store.mono_l k
  refine ⟨?_, ?_⟩
  ·intro y0 y1 y2 y3 y4
   unfold retargetref19_Store.j0
   repeat' first
   | (with_reducible exact ih0 _ _ _ _ _)
   | (with_reducible exact ih1 _ _ _ _ _)
   | (with_reducible exact retargetref01_Ok.mono _ _ _)
   | (with_reducible exact retargetref19_Memory.mono _ _)
   | (with_reducible exact retargetref19_put.mono _ _ _ _)
   | (with_reducible exact LeO.refl _)
   | (with_reducible exact LeO.none _)
   | (with_reducible refine LeO.ite ?_ ?_)
   | (with_reducible refine LeO.bind ?_ (fun _ => ?_))
   | exact ih0 _ _ _ _ _
   | exact ih1 _ _ _ _ _
   | exact retargetref01_Ok.mono _ _ _
   | exact retargetref19_Memory.mono _ _
   | exact retargetref19_put.mono _ _ _ _
   | exact LeO.none _
   | refine LeO.ite ?_ ?_
   | refine LeO.bind ?_ (fun _ => ?_)
  ·intro y0 y1 y2 y3 y4
   unfold retargetref19_Store.l0
   repeat' first
   | (with_reducible exact ih0 _ _ _ _ _)
   | (with_reducible exact ih1 _ _ _ _ _)
   | (with_reducible exact retargetref01_Ok.mono _ _ _)
   | (with_reducible exact retargetref19_Memory.mono _ _)
   | (with_reducible exact retargetref19_put.mono _ _ _ _)
   | (with_reducible exact LeO.refl _)
   | (with_reducible exact LeO.none _)
   | (with_reducible refine LeO.ite ?_ ?_)
   | (with_reducible refine LeO.bind ?_ (fun _ => ?_))
   | exact ih0 _ _ _ _ _
   | exact ih1 _ _ _ _ _
   | exact retargetref01_Ok.mono _ _ _
   | exact retargetref19_Memory.mono _ _
   | exact retargetref19_put.mono _ _ _ _
   | exact LeO.none _
   | refine LeO.ite ?_ ?_
   | refine LeO.bind ?_ (fun _ => ?_)
theorem retargetref19_Store.mono : ∀ a0 a1 a2 a3 k, LeO (retargetref19_Store.f k a0 a1 a2 a3) (retargetref19_Store.f (k + 1) a0 a1 a2 a3) := by
 intro a0 a1 a2 a3 k
 obtain ⟨ih0, ih1⟩ := retargetref19_Store.mono_l k
 unfold retargetref19_Store.f
 repeat' first
   | (with_reducible exact ih0 _ _ _ _ _)
   | (with_reducible exact ih1 _ _ _ _ _)
   | (with_reducible exact retargetref01_Ok.mono _ _ _)
   | (with_reducible exact retargetref19_Memory.mono _ _)
   | (with_reducible exact retargetref19_put.mono _ _ _ _)
   | (with_reducible exact LeO.refl _)
   | (with_reducible exact LeO.none _)
   | (with_reducible refine LeO.ite ?_ ?_)
   | (with_reducible refine LeO.bind ?_ (fun _ => ?_))
   | exact ih0 _ _ _ _ _
   | exact ih1 _ _ _ _ _
   | exact retargetref01_Ok.mono _ _ _
   | exact retargetref19_Memory.mono _ _
   | exact retargetref19_put.mono _ _ _ _
   | exact LeO.none _
   | refine LeO.ite ?_ ?_
   | refine LeO.bind ?_ (fun _ => ?_)
set_option maxHeartbeats 8000000 in
set_option maxRecDepth 100000 in
theorem retargetref19_Store.calls (k : Nat) (A0 : Option Addr) (c0 : Nat) (l0 : List (S36)) (a1 : Int) (a2 : Int) (a3 : Int) (r1 : List (S36)) (r2 : Int) (w : World) (hr0 : Kd.C k36 w A0 l0.length l0) (hc0 : l0.length ≤ c0) (h : retargetref19_Store.f k l0 a1 a2 a3 = some (r1, r2)) :
  Calls Try.prog 6 #[.slice A0 l0.length c0, .int .u64 a1, .int .i64 a2, .int .u64 a3] w fun e w' => ∃ v0_ : Value, e = .returned (.tuple #[v0_, .int .i64 r2]) ∧ Kd.R k36 36 w' w.heap.size (fun _ => True) v0_ r1 ∧ Below w.heap.size w w' := by
 have HR0 := Aside0.mk hr0
 have HC0 := Aside0.mk hc0
 clear hr0 hc0
 have HB := Aside0.mk (Below.refl w.heap.size w)
 have H : ((retargetref19_Memory.f k l0).bind fun t147 => (if t147 = true then (if a1 > 4294967295 then (retargetref19_Store.j0 k l0 a1 a2 a3 true) else (if a2 = 8 then ((retargetref01_Ok.f k a2 a3).bind fun t148 => (retargetref19_Store.j0 k l0 a1 a2 a3 (!t148))) else (if a2 = 16 then ((retargetref01_Ok.f k a2 a3).bind fun t149 => (retargetref19_Store.j0 k l0 a1 a2 a3 (!t149))) else (if a2 = 32 then ((retargetref01_Ok.f k a2 a3).bind fun t150 => (retargetref19_Store.j0 k l0 a1 a2 a3 (!t150))) else (if a2 = 64 then ((retargetref01_Ok.f k a2 a3).bind fun t151 => (retargetref19_Store.j0 k l0 a1 a2 a3 (!t151))) else (retargetref19_Store.j0 k l0 a1 a2 a3 true)))))) else (retargetref19_Store.j0 k l0 a1 a2 a3 true))) = some (r1, r2) := h
 clear h
 have HC5 := Aside0.mk H
 clear H
 go_enter Try.func6, Try.ntmps6
 go_upto_region 1 with (fail)
 go_cut [40] (fun v40 wc => ∃ (kq : Nat) (x40_4 : Bool), v40 = .bool x40_4 ∧ Aside0 (retargetref19_Store.j0 kq l0 a1 a2 a3 x40_4 = some (r1, r2)) ∧ Aside0 (kq ≤ k) ∧ Aside0 (Below w.heap.size w wc))
 case first =>
  have H := HC5.out
  clear HC5
  replace H := Option.bind_eq_some_iff.mp H
  obtain ⟨t147, A60, H⟩ := H
  replace H : (if t147 = true then (if a1 > 4294967295 then (retargetref19_Store.j0 k l0 a1 a2 a3 true) else (if a2 = 8 then ((retargetref01_Ok.f k a2 a3).bind fun t148 => (retargetref19_Store.j0 k l0 a1 a2 a3 (!t148))) else (if a2 = 16 then ((retargetref01_Ok.f k a2 a3).bind fun t149 => (retargetref19_Store.j0 k l0 a1 a2 a3 (!t149))) else (if a2 = 32 then ((retargetref01_Ok.f k a2 a3).bind fun t150 => (retargetref19_Store.j0 k l0 a1 a2 a3 (!t150))) else (if a2 = 64 then ((retargetref01_Ok.f k a2 a3).bind fun t151 => (retargetref19_Store.j0 k l0 a1 a2 a3 (!t151))) else (retargetref19_Store.j0 k l0 a1 a2 a3 true)))))) else (retargetref19_Store.j0 k l0 a1 a2 a3 true)) = some (r1, r2) := H
  have A6 := Aside0.mk A60
  clear A60
  by_cases c7 : t147 = true
  ·subst c7
   have H1 : (if a1 > 4294967295 then (retargetref19_Store.j0 k l0 a1 a2 a3 true) else (if a2 = 8 then ((retargetref01_Ok.f k a2 a3).bind fun t148 => (retargetref19_Store.j0 k l0 a1 a2 a3 (!t148))) else (if a2 = 16 then ((retargetref01_Ok.f k a2 a3).bind fun t149 => (retargetref19_Store.j0 k l0 a1 a2 a3 (!t149))) else (if a2 = 32 then ((retargetref01_Ok.f k a2 a3).bind fun t150 => (retargetref19_Store.j0 k l0 a1 a2 a3 (!t150))) else (if a2 = 64 then ((retargetref01_Ok.f k a2 a3).bind fun t151 => (retargetref19_Store.j0 k l0 a1 a2 a3 (!t151))) else (retargetref19_Store.j0 k l0 a1 a2 a3 true)))))) = some (r1, r2) := by rw [if_pos rfl] at H; exact H
   clear H
   have H := H1
   clear H1
   by_cases c8 : a1 > 4294967295
   ·rw [if_pos c8] at H
    have c8b0 : decide (4294967295 < a1) = true := decide_eq_true c8
    clear c8
    (first | rw [c8b0] | (simp only [i64_w, i32_w]; rw [c8b0]) | skip)
    have H' := Aside0.mk H
    clear H
    go_wp2_with (first | ((with_reducible refine gate_callee (f := 18) rfl ?_); refine goesL_ (some 13) rfl rfl Try.func18 (by kernel_rfl) rfl #[.slice A0 l0.length c0] rfl q1_ ?_; (with_reducible refine (retargetref19_Memory.calls k _ _ l0 true _ ?side1 ?side2 A6.out).mono ?_); (case side1 => repeat (first | exact (Kd.C_below HR0.out HB.out) | (with_reducible refine Kd.C_alloc ?_ _) | (with_reducible refine Kd.C_drewN ?_ _) | (with_reducible refine Kd.C_drew ?_))); (case side2 => exact HC0.out); rintro e w' ⟨rfl, ⟨nd, rfl⟩⟩; refine ⟨_, rfl, ?_⟩))
    go_meet
    case rel => exact ⟨_, (true), q4_, H', ⟨by first | omega | exact Nat.le_refl _⟩, ⟨by repeat (first | (with_reducible first | exact HB.out | apply below_alloc | apply pw_below_drewN | apply below_drew1) | exact HB.out)⟩⟩
   ·rw [if_neg c8] at H
    have c8b0 : decide (4294967295 < a1) = false := decide_eq_false c8
    clear c8
    (first | rw [c8b0] | (simp only [i64_w, i32_w]; rw [c8b0]) | skip)
    by_cases c9 : a2 = 8
    ·rw [if_pos c9] at H
     have c9b0 : (a2 == 8) = true := beq_iff_eq.mpr c9
     have c9b1 : (a2 != 8) = false := bne_eq_false_iff_eq.mpr c9
     clear c9
     replace H := Option.bind_eq_some_iff.mp H
     obtain ⟨t148, A100, H⟩ := H
     replace H : (retargetref19_Store.j0 k l0 a1 a2 a3 (!t148)) = some (r1, r2) := H
     have A10 := Aside0.mk A100
     clear A100
     have H' := Aside0.mk H
     clear H
     go_wp2_with (first | ((with_reducible refine gate_callee (f := 18) rfl ?_); refine goesL_ (some 13) rfl rfl Try.func18 (by kernel_rfl) rfl #[.slice A0 l0.length c0] rfl q1_ ?_; (with_reducible refine (retargetref19_Memory.calls k _ _ l0 true _ ?side1 ?side2 A6.out).mono ?_); (case side1 => repeat (first | exact (Kd.C_below HR0.out HB.out) | (with_reducible refine Kd.C_alloc ?_ _) | (with_reducible refine Kd.C_drewN ?_ _) | (with_reducible refine Kd.C_drew ?_))); (case side2 => exact HC0.out); rintro e w' ⟨rfl, ⟨nd, rfl⟩⟩; refine ⟨_, rfl, ?_⟩) | (go_at_call 19; (with_reducible refine (retargetref01_Ok.calls k a2 a3 t148 _ A10.out).mono ?_); rintro e w' ⟨rfl, ⟨nd, rfl⟩⟩))
     go_meet
     case rel => exact ⟨_, (!t148), q4_, H', ⟨by first | omega | exact Nat.le_refl _⟩, ⟨by repeat (first | (with_reducible first | exact HB.out | apply below_alloc | apply pw_below_drewN | apply below_drew1) | exact HB.out)⟩⟩
    ·rw [if_neg c9] at H
     have c9b0 : (a2 == 8) = false := beq_eq_false_iff_ne.mpr c9
     have c9b1 : (a2 != 8) = true := bne_iff_ne.mpr c9
     by_cases c11 : a2 = 16
     ·rw [if_pos c11] at H
      have c11b0 : (a2 == 16) = true := beq_iff_eq.mpr c11
      have c11b1 : (a2 != 16) = false := bne_eq_false_iff_eq.mpr c11
      clear c11
      replace H := Option.bind_eq_some_iff.mp H
      obtain ⟨t149, A120, H⟩ := H
      replace H : (retargetref19_Store.j0 k l0 a1 a2 a3 (!t149)) = some (r1, r2) := H
      have A12 := Aside0.mk A120
      clear A120
      have H' := Aside0.mk H
      clear H
      go_wp2_with (first | ((with_reducible refine gate_callee (f := 18) rfl ?_); refine goesL_ (some 13) rfl rfl Try.func18 (by kernel_rfl) rfl #[.slice A0 l0.length c0] rfl q1_ ?_; (with_reducible refine (retargetref19_Memory.calls k _ _ l0 true _ ?side1 ?side2 A6.out).mono ?_); (case side1 => repeat (first | exact (Kd.C_below HR0.out HB.out) | (with_reducible refine Kd.C_alloc ?_ _) | (with_reducible refine Kd.C_drewN ?_ _) | (with_reducible refine Kd.C_drew ?_))); (case side2 => exact HC0.out); rintro e w' ⟨rfl, ⟨nd, rfl⟩⟩; refine ⟨_, rfl, ?_⟩) | (go_at_call 19; (with_reducible refine (retargetref01_Ok.calls k a2 a3 t149 _ A12.out).mono ?_); rintro e w' ⟨rfl, ⟨nd, rfl⟩⟩))
      go_meet
      case rel => exact ⟨_, (!t149), q4_, H', ⟨by first | omega | exact Nat.le_refl _⟩, ⟨by repeat (first | (with_reducible first | exact HB.out | apply below_alloc | apply pw_below_drewN | apply below_drew1) | exact HB.out)⟩⟩
     ·rw [if_neg c11] at H
      have c11b0 : (a2 == 16) = false := beq_eq_false_iff_ne.mpr c11
      have c11b1 : (a2 != 16) = true := bne_iff_ne.mpr c11
      by_cases c13 : a2 = 32
      ·rw [if_pos c13] at H
       have c13b0 : (a2 == 32) = true := beq_iff_eq.mpr c13
       have c13b1 : (a2 != 32) = false := bne_eq_false_iff_eq.mpr c13
       clear c13
       replace H := Option.bind_eq_some_iff.mp H
       obtain ⟨t150, A140, H⟩ := H
       replace H : (retargetref19_Store.j0 k l0 a1 a2 a3 (!t150)) = some (r1, r2) := H
       have A14 := Aside0.mk A140
       clear A140
       have H' := Aside0.mk H
       clear H
       go_wp2_with (first | ((with_reducible refine gate_callee (f := 18) rfl ?_); refine goesL_ (some 13) rfl rfl Try.func18 (by kernel_rfl) rfl #[.slice A0 l0.length c0] rfl q1_ ?_; (with_reducible refine (retargetref19_Memory.calls k _ _ l0 true _ ?side1 ?side2 A6.out).mono ?_); (case side1 => repeat (first | exact (Kd.C_below HR0.out HB.out) | (with_reducible refine Kd.C_alloc ?_ _) | (with_reducible refine Kd.C_drewN ?_ _) | (with_reducible refine Kd.C_drew ?_))); (case side2 => exact HC0.out); rintro e w' ⟨rfl, ⟨nd, rfl⟩⟩; refine ⟨_, rfl, ?_⟩) | (go_at_call 19; (with_reducible refine (retargetref01_Ok.calls k a2 a3 t150 _ A14.out).mono ?_); rintro e w' ⟨rfl, ⟨nd, rfl⟩⟩))
       go_meet
       case rel => exact ⟨_, (!t150), q4_, H', ⟨by first | omega | exact Nat.le_refl _⟩, ⟨by repeat (first | (with_reducible first | exact HB.out | apply below_alloc | apply pw_below_drewN | apply below_drew1) | exact HB.out)⟩⟩
      ·rw [if_neg c13] at H
       have c13b0 : (a2 == 32) = false := beq_eq_false_iff_ne.mpr c13
       have c13b1 : (a2 != 32) = true := bne_iff_ne.mpr c13
       by_cases c15 : a2 = 64
       ·rw [if_pos c15] at H
        have c15b0 : (a2 == 64) = true := beq_iff_eq.mpr c15
        have c15b1 : (a2 != 64) = false := bne_eq_false_iff_eq.mpr c15
        clear c15
        replace H := Option.bind_eq_some_iff.mp H
        obtain ⟨t151, A160, H⟩ := H
        replace H : (retargetref19_Store.j0 k l0 a1 a2 a3 (!t151)) = some (r1, r2) := H
        have A16 := Aside0.mk A160
        clear A160
        have H' := Aside0.mk H
        clear H
        go_wp2_with (first | ((with_reducible refine gate_callee (f := 18) rfl ?_); refine goesL_ (some 13) rfl rfl Try.func18 (by kernel_rfl) rfl #[.slice A0 l0.length c0] rfl q1_ ?_; (with_reducible refine (retargetref19_Memory.calls k _ _ l0 true _ ?side1 ?side2 A6.out).mono ?_); (case side1 => repeat (first | exact (Kd.C_below HR0.out HB.out) | (with_reducible refine Kd.C_alloc ?_ _) | (with_reducible refine Kd.C_drewN ?_ _) | (with_reducible refine Kd.C_drew ?_))); (case side2 => exact HC0.out); rintro e w' ⟨rfl, ⟨nd, rfl⟩⟩; refine ⟨_, rfl, ?_⟩) | (go_at_call 19; (with_reducible refine (retargetref01_Ok.calls k a2 a3 t151 _ A16.out).mono ?_); rintro e w' ⟨rfl, ⟨nd, rfl⟩⟩))
        go_meet
        case rel => exact ⟨_, (!t151), q4_, H', ⟨by first | omega | exact Nat.le_refl _⟩, ⟨by repeat (first | (with_reducible first | exact HB.out | apply below_alloc | apply pw_below_drewN | apply below_drew1) | exact HB.out)⟩⟩
       ·rw [if_neg c15] at H
        have c15b0 : (a2 == 64) = false := beq_eq_false_iff_ne.mpr c15
        have c15b1 : (a2 != 64) = true := bne_iff_ne.mpr c15
        have H' := Aside0.mk H
        clear H
        go_wp2_with (first | ((with_reducible refine gate_callee (f := 18) rfl ?_); refine goesL_ (some 13) rfl rfl Try.func18 (by kernel_rfl) rfl #[.slice A0 l0.length c0] rfl q1_ ?_; (with_reducible refine (retargetref19_Memory.calls k _ _ l0 true _ ?side1 ?side2 A6.out).mono ?_); (case side1 => repeat (first | exact (Kd.C_below HR0.out HB.out) | (with_reducible refine Kd.C_alloc ?_ _) | (with_reducible refine Kd.C_drewN ?_ _) | (with_reducible refine Kd.C_drew ?_))); (case side2 => exact HC0.out); rintro e w' ⟨rfl, ⟨nd, rfl⟩⟩; refine ⟨_, rfl, ?_⟩))
        go_meet
        case rel => exact ⟨_, (true), q4_, H', ⟨by first | omega | exact Nat.le_refl _⟩, ⟨by repeat (first | (with_reducible first | exact HB.out | apply below_alloc | apply pw_below_drewN | apply below_drew1) | exact HB.out)⟩⟩
  ·replace c7 := Bool.eq_false_iff.mpr c7
   subst c7
   have H1 : (retargetref19_Store.j0 k l0 a1 a2 a3 true) = some (r1, r2) := by rw [if_neg (show ¬ (false = true) by decide)] at H; exact H
   clear H
   have H := H1
   clear H1
   have H' := Aside0.mk H
   clear H
   go_wp2_with (first | ((with_reducible refine gate_callee (f := 18) rfl ?_); refine goesL_ (some 13) rfl rfl Try.func18 (by kernel_rfl) rfl #[.slice A0 l0.length c0] rfl q1_ ?_; (with_reducible refine (retargetref19_Memory.calls k _ _ l0 false _ ?side1 ?side2 A6.out).mono ?_); (case side1 => repeat (first | exact (Kd.C_below HR0.out HB.out) | (with_reducible refine Kd.C_alloc ?_ _) | (with_reducible refine Kd.C_drewN ?_ _) | (with_reducible refine Kd.C_drew ?_))); (case side2 => exact HC0.out); rintro e w' ⟨rfl, ⟨nd, rfl⟩⟩; refine ⟨_, rfl, ?_⟩))
   go_meet
   case rel => exact ⟨_, (true), q4_, H', ⟨by first | omega | exact Nat.le_refl _⟩, ⟨by repeat (first | (with_reducible first | exact HB.out | apply below_alloc | apply pw_below_drewN | apply below_drew1) | exact HB.out)⟩⟩
 case rest =>
  clear HC5
  try clear c1
  try clear p2
  try clear c6
  try clear c7
  try clear c8
  try clear c8b0
  try clear c9
  try clear c9b0
  try clear c9b1
  try clear c11
  try clear c11b0
  try clear c11b1
  try clear c13
  try clear c13b0
  try clear c13b1
  try clear c15
  try clear c15b0
  try clear c15b1
  obtain ⟨kq, x40_4, rfl, HA, HJ4, HB⟩ := hcut
  cases kq with
  | zero => exact absurd HA.out (by simp [retargetref19_Store.j0])
  | succ kj4 =>
   have H := HA.out
   clear HA
   simp only [retargetref19_Store.j0] at H
   by_cases c17 : x40_4 = true
   ·subst c17
    have H1 : (some (([] : List (S36)), 2)) = some (r1, r2) := by rw [if_pos rfl] at H; exact H
    clear H
    have H := H1
    clear H1
    simp only [Option.some.injEq, Prod.mk.injEq] at H
    obtain ⟨rfl, rfl⟩ := H
    go_wp2
    go_ret2
    exact ⟨_, by first | rfl | (simp [errW_none, errW_some] <;> rfl) | (simp [*, errW_none, errW_some] <;> rfl), by first | exact Kd.R_nil _ _ _ _ _ | exact Kd.N_nil _ _ _ _ _ | exact Kd.V_nil _ _ _ _ _ | exact Kd.Q_nil _ _ _ _ _ | exact Kd.S_nil _ _ _ _ _, by repeat (first | (with_reducible first | exact HB.out | apply below_alloc | apply pw_below_drewN | apply below_drew1) | exact HB.out)⟩
   ·replace c17 := Bool.eq_false_iff.mpr c17
    subst c17
    have H1 : (if ([] : List (S36)).length + l0.length < 8796093022208 then (retargetref19_Store.l0 kj4 a1 a2 a3 (([] : List (S36)) ++ l0) 0) else (none)) = some (r1, r2) := by rw [if_neg (show ¬ (false = true) by decide)] at H; exact H
    clear H
    have H := H1
    clear H1
    by_cases c18 : ([] : List (S36)).length + l0.length < 8796093022208
    ·rw [if_pos c18] at H
     have LMc18 := Aside0.mk c18
     clear c18
     obtain ⟨y152, hy152⟩ : ∃ y_ : List (S36), y_ = (([] : List (S36)) ++ l0) := ⟨_, rfl⟩
     replace H : (retargetref19_Store.l0 kj4 a1 a2 a3 y152 0) = some (r1, r2) := by first | (rw [hy152]; with_reducible exact H) | (have H2_ := (Option.bind_some _ _).symm.trans H; rw [hy152]; with_reducible exact H2_) | (have H2_ := (Option.bind_some _ _).symm.trans H; with_reducible exact H2_) | with_reducible exact H | (rw [hy152]; exact H) | exact H
     have Ny152 := Aside0.mk hy152
     clear hy152
     have H' := Aside0.mk H
     clear H
     go_wp2_with (first | ((with_reducible refine gate_builtin (b := .append) (xs := #[.tmp 41, .tmp 42]) rfl ?_); at_builtin; refine Kd.R_append_rows k36 (w0 := w) w.heap.size rfl (.tmp 41) (.tmp 42) 22 36 (.agg #[(.int .u64 0), (.int .u8 0)]) 16 rfl Try.underlying22 info36 rfl (by decide) (by omega) (.slice none 0 0) ([] : List (S36)) l0 _ _ _ (fun _ => True) (fun _ => False) rfl rfl ?aO ?aR (fun _ _ h => h) (fun _ h => h.elim) ?aF ?aB ?aS ?aL ?_; (case aR => repeat (first | exact (Kd.C_below HR0.out HB.out) | (with_reducible refine Kd.C_alloc ?_ _) | (with_reducible refine Kd.C_drewN ?_ _) | (with_reducible refine Kd.C_drew ?_))); (case aB => exact q0_); (case aF => exact (fun _ _ => trivial)); (case aO => exact ((Kd.R_nil _ _ _ _ (fun _ => True)))); (case aS => exact (below_size q0_)); (case aL => have := LMc18.out; omega); intro v153 w19 ho hb hg hat; rw [← Ny152.out] at ho; have n0_ := Aside0.mk (hb); have n1_ := Aside0.mk (ho); clear HB; have HB := n0_; have HO154 := n1_; clear n0_ n1_; clear ho hb hg hat))
     go_loopg [1, 3, 10, 11] kj4 (fun kq v1 v3 v10 v11 w' => ∃ (x1_2 : Int) (x3_2 : Int) (x10_2 : List (S36)) (x11_2 : Int), v1 = .int .u64 x1_2 ∧ v3 = .int .u64 x3_2 ∧ v11 = .int .i64 x11_2 ∧ Aside0 (retargetref19_Store.l0 kq x1_2 a2 x3_2 x10_2 x11_2 = some (r1, r2)) ∧ Aside0 (kq ≤ kj4) ∧ Aside0 (Kd.R k36 36 w' w.heap.size (fun _ => True) v10 x10_2) ∧ Aside0 (Below w.heap.size w w'))
     case atStart => exact ⟨(a1), (a3), (y152), (0), q4_, q4_, q4_, H', ⟨Nat.le_refl _⟩, ⟨by (with_reducible repeat (first | apply Kd.R_alloc | apply Kd.R_drewN | apply Kd.R_drew)); exact HO154.out⟩, ⟨by repeat (first | (with_reducible first | exact HB.out | apply below_alloc | apply pw_below_drewN | apply below_drew1) | exact HB.out)⟩⟩
     case round =>
      clear H'
      try clear c1
      try clear p2
      try clear c6
      try clear c7
      try clear c8
      try clear c8b0
      try clear c9
      try clear c9b0
      try clear c9b1
      try clear c11
      try clear c11b0
      try clear c11b1
      try clear c13
      try clear c13b0
      try clear c13b1
      try clear c15
      try clear c15b0
      try clear c15b1
      try clear c17
      try clear c18
      try clear p2
      obtain ⟨x1_2, x3_2, x10_2, x11_2, rfl, rfl, rfl, HA, HK2, HO_10, HB⟩ := hrel
      cases gk with
      | zero => exact absurd HA.out (by simp [retargetref19_Store.l0])
      | succ k2 =>
       have H := HA.out
       clear HA
       simp only [retargetref19_Store.l0] at H
       by_cases c20 : x11_2 < (wrap64 (Int.tdiv a2 8))
       ·rw [if_pos c20] at H
        have c20b0 : decide (x11_2 < (wrap64 (Int.tdiv a2 8))) = true := decide_eq_true c20
        clear c20
        replace H := Option.bind_eq_some_iff.mp H
        obtain ⟨t155, A210, H⟩ := H
        replace H : (if x1_2 = 4294967295 then (retargetref19_Store.l0 k2 0 a2 (IntKind.u64.wrap (Int.tdiv x3_2 256)) t155 (wrap64 (x11_2 + 1))) else (retargetref19_Store.l0 k2 (IntKind.u64.wrap (x1_2 + 1)) a2 (IntKind.u64.wrap (Int.tdiv x3_2 256)) t155 (wrap64 (x11_2 + 1)))) = some (r1, r2) := H
        have A21 := Aside0.mk A210
        clear A210
        by_cases c22 : x1_2 = 4294967295
        ·rw [if_pos c22] at H
         have c22b0 : (x1_2 == 4294967295) = true := beq_iff_eq.mpr c22
         have c22b1 : (x1_2 != 4294967295) = false := bne_eq_false_iff_eq.mpr c22
         clear c22
         have H' := Aside0.mk H
         clear H
         obtain ⟨Ao23, co23, eo23⟩ := Kd.R_slice HO_10.out
         subst eo23
         go_wp2_with (first | ((with_reducible refine gate_callee (f := 20) rfl ?_); refine goesL_ (some 55) rfl rfl Try.func20 (by kernel_rfl) rfl #[.slice Ao23 x10_2.length co23, .int .u64 x1_2, .int .u8 ((Int.tmod x3_2 256) % 256)] rfl q1_ ?_; (with_reducible refine (retargetref19_put.calls k2 _ _ x10_2 x1_2 ((Int.tmod x3_2 256) % 256) t155 _ ?side1 ?side2 A21.out).mono ?_); (case side1 => repeat (first | exact (Kd.R_reads' HO_10.out).2.2 | (with_reducible refine Kd.C_alloc ?_ _) | (with_reducible refine Kd.C_drewN ?_ _) | (with_reducible refine Kd.C_drew ?_))); (case side2 => exact (Kd.R_reads' HO_10.out).2.1); rintro e w24 ⟨v156, rfl, ho0, hb⟩; refine ⟨_, rfl, ?_⟩; have n0_ := Aside0.mk (Kd.R_elder' q15_ (Kd.R_base ho0) hb); have n1_ := Aside0.mk (Kd.R_lower (Kd.R_new' ho0 (Kd.R_lt q15_)) (below_size q0_)); have n2_ := Aside0.mk (below_step q0_ hb); clear HO_10; clear HB; have HO_10 := n0_; have HO157 := n1_; have HB := n2_; clear n0_ n1_ n2_; (try clear hb); (try clear hb2); (try clear hk); (try clear hi); (try clear ho0)))
         go_roundg k2
         case measure => have := HJ4.out; have := HK2.out; omega
         case rel => exact ⟨(0), (IntKind.u64.wrap (Int.tdiv x3_2 256)), (t155), (wrap64 (x11_2 + 1)), q4_, q4_, q4_, H', ⟨by have := HJ4.out; have := HK2.out; omega⟩, ⟨by (with_reducible repeat (first | apply Kd.R_alloc | apply Kd.R_drewN | apply Kd.R_drew)); exact Kd.R_mono HO157.out (fun _ hk => trivial)⟩, ⟨by repeat (first | (with_reducible first | exact HB.out | apply below_alloc | apply pw_below_drewN | apply below_drew1) | exact HB.out)⟩⟩
        ·rw [if_neg c22] at H
         have c22b0 : (x1_2 == 4294967295) = false := beq_eq_false_iff_ne.mpr c22
         have c22b1 : (x1_2 != 4294967295) = true := bne_iff_ne.mpr c22
         have H' := Aside0.mk H
         clear H
         obtain ⟨Ao25, co25, eo25⟩ := Kd.R_slice HO_10.out
         subst eo25
         go_wp2_with (first | ((with_reducible refine gate_callee (f := 20) rfl ?_); refine goesL_ (some 55) rfl rfl Try.func20 (by kernel_rfl) rfl #[.slice Ao25 x10_2.length co25, .int .u64 x1_2, .int .u8 ((Int.tmod x3_2 256) % 256)] rfl q1_ ?_; (with_reducible refine (retargetref19_put.calls k2 _ _ x10_2 x1_2 ((Int.tmod x3_2 256) % 256) t155 _ ?side1 ?side2 A21.out).mono ?_); (case side1 => repeat (first | exact (Kd.R_reads' HO_10.out).2.2 | (with_reducible refine Kd.C_alloc ?_ _) | (with_reducible refine Kd.C_drewN ?_ _) | (with_reducible refine Kd.C_drew ?_))); (case side2 => exact (Kd.R_reads' HO_10.out).2.1); rintro e w26 ⟨v156, rfl, ho0, hb⟩; refine ⟨_, rfl, ?_⟩; have n0_ := Aside0.mk (Kd.R_elder' q15_ (Kd.R_base ho0) hb); have n1_ := Aside0.mk (Kd.R_lower (Kd.R_new' ho0 (Kd.R_lt q15_)) (below_size q0_)); have n2_ := Aside0.mk (below_step q0_ hb); clear HO_10; clear HB; have HO_10 := n0_; have HO157 := n1_; have HB := n2_; clear n0_ n1_ n2_; (try clear hb); (try clear hb2); (try clear hk); (try clear hi); (try clear ho0)))
         go_roundg k2
         case measure => have := HJ4.out; have := HK2.out; omega
         case rel => exact ⟨(IntKind.u64.wrap (x1_2 + 1)), (IntKind.u64.wrap (Int.tdiv x3_2 256)), (t155), (wrap64 (x11_2 + 1)), q4_, q4_, q4_, H', ⟨by have := HJ4.out; have := HK2.out; omega⟩, ⟨by (with_reducible repeat (first | apply Kd.R_alloc | apply Kd.R_drewN | apply Kd.R_drew)); exact Kd.R_mono HO157.out (fun _ hk => trivial)⟩, ⟨by repeat (first | (with_reducible first | exact HB.out | apply below_alloc | apply pw_below_drewN | apply below_drew1) | exact HB.out)⟩⟩
       ·rw [if_neg c20] at H
        have c20b0 : decide (x11_2 < (wrap64 (Int.tdiv a2 8))) = false := decide_eq_false c20
        clear c20
        by_cases c27 : (x10_2.length : Int) > 4096
        ·rw [if_pos c27] at H
         have c27b0 : decide (4096 < (x10_2.length : Int)) = true := decide_eq_true c27
         have c27b1 : decide (4096 < x10_2.length) = true := decide_eq_true (by omega)
         clear c27
         simp only [Option.some.injEq, Prod.mk.injEq] at H
         obtain ⟨rfl, rfl⟩ := H
         obtain ⟨Ao28, co28, eo28⟩ := Kd.R_slice HO_10.out
         subst eo28
         go_wp2
         go_ret2
         exact ⟨_, by first | rfl | (simp [errW_none, errW_some] <;> rfl) | (simp [*, errW_none, errW_some] <;> rfl), by first | exact Kd.R_nil _ _ _ _ _ | exact Kd.N_nil _ _ _ _ _ | exact Kd.V_nil _ _ _ _ _ | exact Kd.Q_nil _ _ _ _ _ | exact Kd.S_nil _ _ _ _ _, by repeat (first | (with_reducible first | exact HB.out | apply below_alloc | apply pw_below_drewN | apply below_drew1) | exact HB.out)⟩
        ·rw [if_neg c27] at H
         have c27b0 : decide (4096 < (x10_2.length : Int)) = false := decide_eq_false c27
         have c27b1 : decide (4096 < x10_2.length) = false := decide_eq_false (by omega)
         clear c27
         simp only [Option.some.injEq, Prod.mk.injEq] at H
         obtain ⟨rfl, rfl⟩ := H
         obtain ⟨Ao29, co29, eo29⟩ := Kd.R_slice HO_10.out
         subst eo29
         go_wp2
         go_ret2
         exact ⟨_, by first | rfl | (simp [errW_none, errW_some] <;> rfl) | (simp [*, errW_none, errW_some] <;> rfl), by (with_reducible repeat (first | apply Kd.R_alloc | apply Kd.R_drewN | apply Kd.R_drew)); exact HO_10.out, by repeat (first | (with_reducible first | exact HB.out | apply below_alloc | apply pw_below_drewN | apply below_drew1) | exact HB.out)⟩
    ·rw [if_neg c18] at H
     exact absurd H (by simp)

end Go.Proofs.Ytpogkinegkfokaa.MInterpretStores
