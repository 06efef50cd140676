/- Functions of the program as Lean functions, and of each a proof that the Go code comes to just its answers. Laid for this claim by wip/drive.py of this repo (our driver over the kit's printing program); no text of print.sh. No condition. -/
import Derived.Test.YtjopdafckhkmmaaDoorCBSatMBSx0
import Derived.Test.YtjopdafckhkmmaaDoorCBSatMBSx1
import Derived.Test.YtjopdafckhkmmaaDoorCBSatMBSx2
import Derived.Test.YtjopdafckhkmmaaDoorCBSatHBSCompare
namespace Go.Proofs.YtjopdafckhkmmaaDoor.MBS
open Go.Proofs.YtjopdafckhkmmaaDoor.Zed Go.RowKit Go.Proofs.YtjopdafckhkmmaaDoorW.PrintWords Go.Proofs.YtjopdafckhkmmaaDoorW.PrintLast Go.Proofs.YtjopdafckhkmmaaDoorW.PrintMore
attribute [local go_sem] max2_int min2_int max_two min_two max_three min_three max_four min_four   -- for this text's walks alone
set_option linter.unusedVariables false
set_option linter.unusedSimpArgs false

-- function 15 (blast_Run): by hand, in YtjopdafckhkmmaaDoorHBSRun

/-! ### term_CheckBound: function 38 -/
def term_CheckBound.l0 : Nat → List (S40) → List (S40) → Int → Int → Option (Int)
 | 0, _, _, _, _ => none
 | k + 1, x0, x8, x9, x10 => if x10 < x9 then (if 0 ≤ x10 then (if x10 < (x8.length : Int) then ((term_variable.f k ((rd_T40 x8 x10).f0)).bind fun t145 => (if t145 = true then ((bits_Ok.f ((rd_T40 x8 x10).f1) ((rd_T40 x8 x10).f2)).bind fun t146 => (if t146 = true then (if x10 > 0 then (if 0 ≤ (wrap64 (x10 - 1)) then (if (wrap64 (x10 - 1)) < (x0.length : Int) then (if ((Op.bytesLess (((rd_T40 x0 (wrap64 (x10 - 1))).f0).toList) (((rd_T40 x8 x10).f0).toList)) = true) then (term_CheckBound.l0 k x0 x8 x9 (wrap64 (x10 + 1))) else (some 8)) else (none)) else (none)) else (term_CheckBound.l0 k x0 x8 x9 (wrap64 (x10 + 1)))) else (some 8))) else (some 8))) else (none)) else (none)) else (some 0)
def term_CheckBound.f (k : Nat) (l0 : List (S40)) : Option (Int) := if (l0.length : Int) > 1000 then (some 8) else (term_CheckBound.l0 k l0 l0 (l0.length : Int) 0)
theorem term_CheckBound.mono_l : ∀ k, (∀ y0 y1 y2 y3, LeO (term_CheckBound.l0 k y0 y1 y2 y3) (term_CheckBound.l0 (k + 1) y0 y1 y2 y3))
 | 0 => fun _ _ _ _ r h => by simp [term_CheckBound.l0] at h
 | k + 1 => by
  have ih0 := term_CheckBound.mono_l k
  ·intro y0 y1 y2 y3
   unfold term_CheckBound.l0
   repeat' first
   | (with_reducible exact ih0 _ _ _ _)
   | (with_reducible exact term_variable.mono _ _)
   | (with_reducible exact LeO.refl _)
   | (with_reducible exact LeO.none _)
   | (with_reducible refine LeO.ite ?_ ?_)
   | (with_reducible refine LeO.bind ?_ (fun _ => ?_))
   | exact ih0 _ _ _ _
   | exact term_variable.mono _ _
   | exact LeO.none _
   | refine LeO.ite ?_ ?_
   | refine LeO.bind ?_ (fun _ => ?_)
theorem term_CheckBound.mono : ∀ a0 k, LeO (term_CheckBound.f k a0) (term_CheckBound.f (k + 1) a0) := by
 intro a0 k
 have ih0 := term_CheckBound.mono_l k
 unfold term_CheckBound.f
 repeat' first
   | (with_reducible exact ih0 _ _ _ _)
   | (with_reducible exact term_variable.mono _ _)
   | (with_reducible exact LeO.refl _)
   | (with_reducible exact LeO.none _)
   | (with_reducible refine LeO.ite ?_ ?_)
   | (with_reducible refine LeO.bind ?_ (fun _ => ?_))
   | exact ih0 _ _ _ _
   | exact term_variable.mono _ _
   | exact LeO.none _
   | refine LeO.ite ?_ ?_
   | refine LeO.bind ?_ (fun _ => ?_)
set_option maxHeartbeats 8000000 in
set_option maxRecDepth 100000 in
theorem term_CheckBound.calls (k : Nat) (A0 : Option Addr) (c0 : Nat) (l0 : List (S40)) (r : Int) (w : World) (hr0 : Kd.C k40 w A0 l0.length l0) (hc0 : l0.length ≤ c0) (h : term_CheckBound.f k l0 = some r) :
  Calls Tryd.prog 38 #[.slice A0 l0.length c0] w fun e w' => e = .returned (.int .i64 r) ∧ Below w.heap.size w w' := by
 have hu40 := Tryd.underlying40
 have HR0 := Aside0.mk hr0
 have HC0 := Aside0.mk hc0
 clear hr0 hc0
 have HB := Aside0.mk (Below.refl w.heap.size w)
 have H : (if (l0.length : Int) > 1000 then (some 8) else (term_CheckBound.l0 k l0 l0 (l0.length : Int) 0)) = some r := h
 clear h
 by_cases c2 : (l0.length : Int) > 1000
 ·rw [if_pos c2] at H
  have c2b0 : decide (1000 < (l0.length : Int)) = true := decide_eq_true c2
  have c2b1 : decide (1000 < l0.length) = true := decide_eq_true q29_
  clear c2
  obtain rfl := Option.some.inj H
  go_enter Tryd.func38, Tryd.ntmps38
  go_wp2
  repeat (go_quiet (fail); try go_wp2)
  go_ret
  exact ⟨by first | rfl | (simp [errW_none, errW_some] <;> rfl) | (simp [*, errW_none, errW_some] <;> rfl), by repeat (first | (with_reducible first | exact HB.out | apply below_alloc | apply pw_below_drewN | apply below_drew1) | exact HB.out)⟩
 ·rw [if_neg c2] at H
  have c2b0 : decide (1000 < (l0.length : Int)) = false := decide_eq_false c2
  have c2b1 : decide (1000 < l0.length) = false := decide_eq_false q29_
  clear c2
  have H' := Aside0.mk H
  clear H
  go_enter Tryd.func38, Tryd.ntmps38
  go_wp2
  repeat (go_quiet (fail); try go_wp2)
  go_loopg [10] k (fun kq v10 w' => ∃ (x10_1 : Int), v10 = .int .i64 x10_1 ∧ Aside0 (term_CheckBound.l0 kq l0 l0 (l0.length : Int) x10_1 = some r) ∧ Aside0 (kq ≤ k) ∧ Aside0 (Below w.heap.size w w'))
  case atStart => exact ⟨(0), q10_, H', ⟨Nat.le_refl _⟩, ⟨by repeat (first | (with_reducible first | exact HB.out | apply below_alloc | apply pw_below_drewN | apply below_drew1) | exact HB.out)⟩⟩
  case round =>
   clear H'
   try clear c2
   try clear c2b0
   try clear c2b1
   try clear p2
   obtain ⟨x10_1, rfl, HA, HK1, HB⟩ := hrel
   cases gk with
   | zero => exact absurd HA.out (by simp [term_CheckBound.l0])
   | succ k1 =>
    have H := HA.out
    clear HA
    simp only [term_CheckBound.l0] at H
    by_cases c3 : x10_1 < (l0.length : Int)
    ·rw [if_pos c3] at H
     have c3b0 : decide (x10_1 < (l0.length : Int)) = true := decide_eq_true c3
     clear c3
     by_cases c4 : 0 ≤ x10_1
     ·rw [if_pos c4] at H
      have c4b0 : decide (0 ≤ x10_1) = true := decide_eq_true c4
      clear c4
      by_cases c5 : x10_1 < (l0.length : Int)
      ·rw [if_pos c5] at H
       have c5b0 : decide (x10_1 < (l0.length : Int)) = true := decide_eq_true c5
       clear c5
       replace H := Option.bind_eq_some_iff.mp H
       obtain ⟨t145, A60, H⟩ := H
       replace H : (if t145 = true then ((bits_Ok.f ((rd_T40 l0 x10_1).f1) ((rd_T40 l0 x10_1).f2)).bind fun t146 => (if t146 = true then (if x10_1 > 0 then (if 0 ≤ (wrap64 (x10_1 - 1)) then (if (wrap64 (x10_1 - 1)) < (l0.length : Int) then (if ((Op.bytesLess (((rd_T40 l0 (wrap64 (x10_1 - 1))).f0).toList) (((rd_T40 l0 x10_1).f0).toList)) = true) then (term_CheckBound.l0 k1 l0 l0 (l0.length : Int) (wrap64 (x10_1 + 1))) else (some 8)) else (none)) else (none)) else (term_CheckBound.l0 k1 l0 l0 (l0.length : Int) (wrap64 (x10_1 + 1)))) else (some 8))) else (some 8)) = some r := H
       have A6 := Aside0.mk A60
       clear A60
       by_cases c7 : t145 = true
       ·subst c7
        have H1 : ((bits_Ok.f ((rd_T40 l0 x10_1).f1) ((rd_T40 l0 x10_1).f2)).bind fun t146 => (if t146 = true then (if x10_1 > 0 then (if 0 ≤ (wrap64 (x10_1 - 1)) then (if (wrap64 (x10_1 - 1)) < (l0.length : Int) then (if ((Op.bytesLess (((rd_T40 l0 (wrap64 (x10_1 - 1))).f0).toList) (((rd_T40 l0 x10_1).f0).toList)) = true) then (term_CheckBound.l0 k1 l0 l0 (l0.length : Int) (wrap64 (x10_1 + 1))) else (some 8)) else (none)) else (none)) else (term_CheckBound.l0 k1 l0 l0 (l0.length : Int) (wrap64 (x10_1 + 1)))) else (some 8))) = some r := by rw [if_pos rfl] at H; exact H
        clear H
        have H := H1
        clear H1
        replace H := Option.bind_eq_some_iff.mp H
        obtain ⟨t146, A80, H⟩ := H
        replace H : (if t146 = true then (if x10_1 > 0 then (if 0 ≤ (wrap64 (x10_1 - 1)) then (if (wrap64 (x10_1 - 1)) < (l0.length : Int) then (if ((Op.bytesLess (((rd_T40 l0 (wrap64 (x10_1 - 1))).f0).toList) (((rd_T40 l0 x10_1).f0).toList)) = true) then (term_CheckBound.l0 k1 l0 l0 (l0.length : Int) (wrap64 (x10_1 + 1))) else (some 8)) else (none)) else (none)) else (term_CheckBound.l0 k1 l0 l0 (l0.length : Int) (wrap64 (x10_1 + 1)))) else (some 8)) = some r := H
        have A8 := Aside0.mk A80
        clear A80
        by_cases c9 : t146 = true
        ·subst c9
         have H1 : (if x10_1 > 0 then (if 0 ≤ (wrap64 (x10_1 - 1)) then (if (wrap64 (x10_1 - 1)) < (l0.length : Int) then (if ((Op.bytesLess (((rd_T40 l0 (wrap64 (x10_1 - 1))).f0).toList) (((rd_T40 l0 x10_1).f0).toList)) = true) then (term_CheckBound.l0 k1 l0 l0 (l0.length : Int) (wrap64 (x10_1 + 1))) else (some 8)) else (none)) else (none)) else (term_CheckBound.l0 k1 l0 l0 (l0.length : Int) (wrap64 (x10_1 + 1)))) = some r := by rw [if_pos rfl] at H; exact H
         clear H
         have H := H1
         clear H1
         by_cases c10 : x10_1 > 0
         ·rw [if_pos c10] at H
          have c10b0 : decide (0 < x10_1) = true := decide_eq_true c10
          clear c10
          obtain ⟨ji11, hji11⟩ : ∃ j_ : Int, (wrap64 (x10_1 - 1)) = j_ := ⟨_, rfl⟩
          replace H : (if 0 ≤ (ji11) then (if (ji11) < (l0.length : Int) then (if ((Op.bytesLess (((rd_T40 l0 (ji11)).f0).toList) (((rd_T40 l0 x10_1).f0).toList)) = true) then (term_CheckBound.l0 k1 l0 l0 (l0.length : Int) (wrap64 (x10_1 + 1))) else (some 8)) else (none)) else (none)) = some r := by first | (rw [hji11] at H; exact H) | (simp only [hji11] at H ⊢; exact H)
          (try rw [hji11] at A6)
          (try rw [hji11] at A8)
          have hji11w : (IntKind.i64.wrap (x10_1 - 1)) = ji11 := (i64_w _).trans hji11
          by_cases c12 : 0 ≤ (ji11)
          ·rw [if_pos c12] at H
           have c12b0 : decide (0 ≤ (ji11)) = true := decide_eq_true c12
           clear c12
           by_cases c13 : (ji11) < (l0.length : Int)
           ·rw [if_pos c13] at H
            have c13b0 : decide ((ji11) < (l0.length : Int)) = true := decide_eq_true c13
            clear c13
            by_cases c14 : ((Op.bytesLess (((rd_T40 l0 (ji11)).f0).toList) (((rd_T40 l0 x10_1).f0).toList)) = true)
            ·rw [if_pos c14] at H
             have c14b0 : (Op.bytesLess (((rd_T40 l0 (ji11)).f0).toList) (((rd_T40 l0 x10_1).f0).toList)) = true := c14
             clear c14
             have H' := Aside0.mk H
             clear H
             have p143 : 0 ≤ (x10_1 : Int) := of_decide_eq_true q2_
             have q143 : x10_1 < (l0.length : Int) := of_decide_eq_true q2_
             obtain ⟨ad143, e143, hx143_0, hx143_1, hx143_2⟩ := at_T40 HR0.out x10_1 p143 q143
             cases e143
             replace hx143_0 := (HB.out.cell (World.block_lt_of_cell? w _ hx143_0)).trans hx143_0
             replace hx143_1 := (HB.out.cell (World.block_lt_of_cell? w _ hx143_1)).trans hx143_1
             replace hx143_2 := (HB.out.cell (World.block_lt_of_cell? w _ hx143_2)).trans hx143_2
             replace p143 := eq_true p143
             replace q143 := eq_true q143
             go_wp2_with (first | ((with_reducible refine gate_dst (N := 4) rfl ?_); refine box_event ?hg (N := 4) ?hd (cs := #[.string (⟨#[]⟩ : ByteArray), .int .i64 0, .int .u64 0]) (t := 40) ?hr ?_; (case hd => rfl); (case hg => rfl); (case hr => first | (go_simp; done) | (go_simp; rfl)); intro gb144 hg w15 hbox hb; have n0_ := Aside0.mk (below_step q0_ hb); have n1_ := Aside0.mk (hbox); have n2_ := Aside0.mk ((by rw [hg]; exact (below_size q0_) : w.heap.size ≤ gb144)); have n3_ := Aside0.mk ((by rw [hg]; exact (below_size q0_) : w.heap.size ≤ gb144)); clear HB; have HB := n0_; have BK144 := n1_; have GW144 := n2_; have GE144 := n3_; clear n0_ n1_ n2_ n3_; clear hb hbox hg; have hcz16_0 : w15.cell? ⟨gb144, 0, none⟩ = some (.string (⟨#[]⟩ : ByteArray)) := (blk_cell BK144.out 0).trans rfl; have hcz16_1 : w15.cell? ⟨gb144, 1, none⟩ = some (.int .i64 0) := (blk_cell BK144.out 1).trans rfl; have hcz16_2 : w15.cell? ⟨gb144, 2, none⟩ = some (.int .u64 0) := (blk_cell BK144.out 2).trans rfl; have hfz16_0 := blk_frozen BK144.out 0; have hfz16_1 := blk_frozen BK144.out 1; have hfz16_2 := blk_frozen BK144.out 2) | (go_at_call 61; (with_reducible refine (term_variable.calls k1 ((rd_T40 l0 x10_1).f0) true _ A6.out).mono ?_); rintro e w' ⟨rfl, ⟨nd, rfl⟩⟩; (try first | exact ⟨rfl, _, World.drewN_drewN _ _ _⟩ | exact ⟨rfl, _, Eq.trans (World.drewN_drewN _ _ _) (congrArg (World.drewN _) (Nat.add_assoc _ _ _))⟩)) | (go_at_call 62; (with_reducible refine (bits_Ok.calls ((rd_T40 l0 x10_1).f1) ((rd_T40 l0 x10_1).f2) true _ A8.out).mono ?_); rintro e w' ⟨rfl, ⟨nd, rfl⟩⟩; (try first | exact ⟨rfl, _, World.drewN_drewN _ _ _⟩ | exact ⟨rfl, _, Eq.trans (World.drewN_drewN _ _ _) (congrArg (World.drewN _) (Nat.add_assoc _ _ _))⟩); have p147 : 0 ≤ ((ji11) : Int) := of_decide_eq_true q2_; have q147 : (ji11) < (l0.length : Int) := of_decide_eq_true q2_; obtain ⟨ad147, e147, hx147_0, hx147_1, hx147_2⟩ := at_T40 HR0.out (ji11) p147 q147; obtain rfl : ad143 = ad147 := (by injection e147); have hn147_0 : ad143.block ≠ gb144 := Nat.ne_of_lt (Nat.lt_of_lt_of_le q18_ GW144.out); have hn147_1 : ad143.block ≠ gb144 := Nat.ne_of_lt (Nat.lt_of_lt_of_le q18_ GW144.out); have hn147_2 : ad143.block ≠ gb144 := Nat.ne_of_lt (Nat.lt_of_lt_of_le q18_ GW144.out); replace hx147_0 := (HB.out.cell (World.block_lt_of_cell? w _ hx147_0)).trans hx147_0; replace hx147_1 := (HB.out.cell (World.block_lt_of_cell? w _ hx147_1)).trans hx147_1; replace hx147_2 := (HB.out.cell (World.block_lt_of_cell? w _ hx147_2)).trans hx147_2; replace hx147_0 := (cell_far (p := ⟨gb144, 0, none⟩) q14_ (.string ((rd_T40 l0 x10_1).f0))).trans hx147_0; replace hx147_1 := (cell_far (p := ⟨gb144, 0, none⟩) q14_ (.string ((rd_T40 l0 x10_1).f0))).trans hx147_1; replace hx147_2 := (cell_far (p := ⟨gb144, 0, none⟩) q14_ (.string ((rd_T40 l0 x10_1).f0))).trans hx147_2; replace hx147_0 := (cell_far (p := ⟨gb144, 1, none⟩) q13_ (.int .i64 ((rd_T40 l0 x10_1).f1))).trans hx147_0; replace hx147_1 := (cell_far (p := ⟨gb144, 1, none⟩) q13_ (.int .i64 ((rd_T40 l0 x10_1).f1))).trans hx147_1; replace hx147_2 := (cell_far (p := ⟨gb144, 1, none⟩) q13_ (.int .i64 ((rd_T40 l0 x10_1).f1))).trans hx147_2; replace hx147_0 := (cell_far (p := ⟨gb144, 2, none⟩) q12_ (.int .u64 ((rd_T40 l0 x10_1).f2))).trans hx147_0; replace hx147_1 := (cell_far (p := ⟨gb144, 2, none⟩) q12_ (.int .u64 ((rd_T40 l0 x10_1).f2))).trans hx147_1; replace hx147_2 := (cell_far (p := ⟨gb144, 2, none⟩) q12_ (.int .u64 ((rd_T40 l0 x10_1).f2))).trans hx147_2; (try have hy147_0 := fun (n_ : Nat) => (show (((((w15.drewN n_).setCell ⟨gb144, 0, none⟩ (.string ((rd_T40 l0 x10_1).f0))).setCell ⟨gb144, 1, none⟩ (.int .i64 ((rd_T40 l0 x10_1).f1))).setCell ⟨gb144, 2, none⟩ (.int .u64 ((rd_T40 l0 x10_1).f2)))).cell? _ = some _ from hx147_0)); (try have hy147_1 := fun (n_ : Nat) => (show (((((w15.drewN n_).setCell ⟨gb144, 0, none⟩ (.string ((rd_T40 l0 x10_1).f0))).setCell ⟨gb144, 1, none⟩ (.int .i64 ((rd_T40 l0 x10_1).f1))).setCell ⟨gb144, 2, none⟩ (.int .u64 ((rd_T40 l0 x10_1).f2)))).cell? _ = some _ from hx147_1)); (try have hy147_2 := fun (n_ : Nat) => (show (((((w15.drewN n_).setCell ⟨gb144, 0, none⟩ (.string ((rd_T40 l0 x10_1).f0))).setCell ⟨gb144, 1, none⟩ (.int .i64 ((rd_T40 l0 x10_1).f1))).setCell ⟨gb144, 2, none⟩ (.int .u64 ((rd_T40 l0 x10_1).f2)))).cell? _ = some _ from hx147_2)); clear hn147_0; clear hn147_1; clear hn147_2; replace p147 := eq_true p147; replace q147 := eq_true q147))
             repeat (go_quiet (first | ((with_reducible refine gate_dst (N := 4) rfl ?_); refine box_event ?hg (N := 4) ?hd (cs := #[.string (⟨#[]⟩ : ByteArray), .int .i64 0, .int .u64 0]) (t := 40) ?hr ?_; (case hd => rfl); (case hg => rfl); (case hr => first | (go_simp; done) | (go_simp; rfl)); intro gb144 hg w15 hbox hb; have n0_ := Aside0.mk (below_step q0_ hb); have n1_ := Aside0.mk (hbox); have n2_ := Aside0.mk ((by rw [hg]; exact (below_size q0_) : w.heap.size ≤ gb144)); have n3_ := Aside0.mk ((by rw [hg]; exact (below_size q0_) : w.heap.size ≤ gb144)); clear HB; have HB := n0_; have BK144 := n1_; have GW144 := n2_; have GE144 := n3_; clear n0_ n1_ n2_ n3_; clear hb hbox hg; have hcz16_0 : w15.cell? ⟨gb144, 0, none⟩ = some (.string (⟨#[]⟩ : ByteArray)) := (blk_cell BK144.out 0).trans rfl; have hcz16_1 : w15.cell? ⟨gb144, 1, none⟩ = some (.int .i64 0) := (blk_cell BK144.out 1).trans rfl; have hcz16_2 : w15.cell? ⟨gb144, 2, none⟩ = some (.int .u64 0) := (blk_cell BK144.out 2).trans rfl; have hfz16_0 := blk_frozen BK144.out 0; have hfz16_1 := blk_frozen BK144.out 1; have hfz16_2 := blk_frozen BK144.out 2) | (go_at_call 61; (with_reducible refine (term_variable.calls k1 ((rd_T40 l0 x10_1).f0) true _ A6.out).mono ?_); rintro e w' ⟨rfl, ⟨nd, rfl⟩⟩; (try first | exact ⟨rfl, _, World.drewN_drewN _ _ _⟩ | exact ⟨rfl, _, Eq.trans (World.drewN_drewN _ _ _) (congrArg (World.drewN _) (Nat.add_assoc _ _ _))⟩)) | (go_at_call 62; (with_reducible refine (bits_Ok.calls ((rd_T40 l0 x10_1).f1) ((rd_T40 l0 x10_1).f2) true _ A8.out).mono ?_); rintro e w' ⟨rfl, ⟨nd, rfl⟩⟩; (try first | exact ⟨rfl, _, World.drewN_drewN _ _ _⟩ | exact ⟨rfl, _, Eq.trans (World.drewN_drewN _ _ _) (congrArg (World.drewN _) (Nat.add_assoc _ _ _))⟩); have p147 : 0 ≤ ((ji11) : Int) := of_decide_eq_true q2_; have q147 : (ji11) < (l0.length : Int) := of_decide_eq_true q2_; obtain ⟨ad147, e147, hx147_0, hx147_1, hx147_2⟩ := at_T40 HR0.out (ji11) p147 q147; obtain rfl : ad143 = ad147 := (by injection e147); have hn147_0 : ad143.block ≠ gb144 := Nat.ne_of_lt (Nat.lt_of_lt_of_le q18_ GW144.out); have hn147_1 : ad143.block ≠ gb144 := Nat.ne_of_lt (Nat.lt_of_lt_of_le q18_ GW144.out); have hn147_2 : ad143.block ≠ gb144 := Nat.ne_of_lt (Nat.lt_of_lt_of_le q18_ GW144.out); replace hx147_0 := (HB.out.cell (World.block_lt_of_cell? w _ hx147_0)).trans hx147_0; replace hx147_1 := (HB.out.cell (World.block_lt_of_cell? w _ hx147_1)).trans hx147_1; replace hx147_2 := (HB.out.cell (World.block_lt_of_cell? w _ hx147_2)).trans hx147_2; replace hx147_0 := (cell_far (p := ⟨gb144, 0, none⟩) q14_ (.string ((rd_T40 l0 x10_1).f0))).trans hx147_0; replace hx147_1 := (cell_far (p := ⟨gb144, 0, none⟩) q14_ (.string ((rd_T40 l0 x10_1).f0))).trans hx147_1; replace hx147_2 := (cell_far (p := ⟨gb144, 0, none⟩) q14_ (.string ((rd_T40 l0 x10_1).f0))).trans hx147_2; replace hx147_0 := (cell_far (p := ⟨gb144, 1, none⟩) q13_ (.int .i64 ((rd_T40 l0 x10_1).f1))).trans hx147_0; replace hx147_1 := (cell_far (p := ⟨gb144, 1, none⟩) q13_ (.int .i64 ((rd_T40 l0 x10_1).f1))).trans hx147_1; replace hx147_2 := (cell_far (p := ⟨gb144, 1, none⟩) q13_ (.int .i64 ((rd_T40 l0 x10_1).f1))).trans hx147_2; replace hx147_0 := (cell_far (p := ⟨gb144, 2, none⟩) q12_ (.int .u64 ((rd_T40 l0 x10_1).f2))).trans hx147_0; replace hx147_1 := (cell_far (p := ⟨gb144, 2, none⟩) q12_ (.int .u64 ((rd_T40 l0 x10_1).f2))).trans hx147_1; replace hx147_2 := (cell_far (p := ⟨gb144, 2, none⟩) q12_ (.int .u64 ((rd_T40 l0 x10_1).f2))).trans hx147_2; (try have hy147_0 := fun (n_ : Nat) => (show (((((w15.drewN n_).setCell ⟨gb144, 0, none⟩ (.string ((rd_T40 l0 x10_1).f0))).setCell ⟨gb144, 1, none⟩ (.int .i64 ((rd_T40 l0 x10_1).f1))).setCell ⟨gb144, 2, none⟩ (.int .u64 ((rd_T40 l0 x10_1).f2)))).cell? _ = some _ from hx147_0)); (try have hy147_1 := fun (n_ : Nat) => (show (((((w15.drewN n_).setCell ⟨gb144, 0, none⟩ (.string ((rd_T40 l0 x10_1).f0))).setCell ⟨gb144, 1, none⟩ (.int .i64 ((rd_T40 l0 x10_1).f1))).setCell ⟨gb144, 2, none⟩ (.int .u64 ((rd_T40 l0 x10_1).f2)))).cell? _ = some _ from hx147_1)); (try have hy147_2 := fun (n_ : Nat) => (show (((((w15.drewN n_).setCell ⟨gb144, 0, none⟩ (.string ((rd_T40 l0 x10_1).f0))).setCell ⟨gb144, 1, none⟩ (.int .i64 ((rd_T40 l0 x10_1).f1))).setCell ⟨gb144, 2, none⟩ (.int .u64 ((rd_T40 l0 x10_1).f2)))).cell? _ = some _ from hx147_2)); clear hn147_0; clear hn147_1; clear hn147_2; replace p147 := eq_true p147; replace q147 := eq_true q147)); try go_wp2_with (first | ((with_reducible refine gate_dst (N := 4) rfl ?_); refine box_event ?hg (N := 4) ?hd (cs := #[.string (⟨#[]⟩ : ByteArray), .int .i64 0, .int .u64 0]) (t := 40) ?hr ?_; (case hd => rfl); (case hg => rfl); (case hr => first | (go_simp; done) | (go_simp; rfl)); intro gb144 hg w15 hbox hb; have n0_ := Aside0.mk (below_step q0_ hb); have n1_ := Aside0.mk (hbox); have n2_ := Aside0.mk ((by rw [hg]; exact (below_size q0_) : w.heap.size ≤ gb144)); have n3_ := Aside0.mk ((by rw [hg]; exact (below_size q0_) : w.heap.size ≤ gb144)); clear HB; have HB := n0_; have BK144 := n1_; have GW144 := n2_; have GE144 := n3_; clear n0_ n1_ n2_ n3_; clear hb hbox hg; have hcz16_0 : w15.cell? ⟨gb144, 0, none⟩ = some (.string (⟨#[]⟩ : ByteArray)) := (blk_cell BK144.out 0).trans rfl; have hcz16_1 : w15.cell? ⟨gb144, 1, none⟩ = some (.int .i64 0) := (blk_cell BK144.out 1).trans rfl; have hcz16_2 : w15.cell? ⟨gb144, 2, none⟩ = some (.int .u64 0) := (blk_cell BK144.out 2).trans rfl; have hfz16_0 := blk_frozen BK144.out 0; have hfz16_1 := blk_frozen BK144.out 1; have hfz16_2 := blk_frozen BK144.out 2) | (go_at_call 61; (with_reducible refine (term_variable.calls k1 ((rd_T40 l0 x10_1).f0) true _ A6.out).mono ?_); rintro e w' ⟨rfl, ⟨nd, rfl⟩⟩; (try first | exact ⟨rfl, _, World.drewN_drewN _ _ _⟩ | exact ⟨rfl, _, Eq.trans (World.drewN_drewN _ _ _) (congrArg (World.drewN _) (Nat.add_assoc _ _ _))⟩)) | (go_at_call 62; (with_reducible refine (bits_Ok.calls ((rd_T40 l0 x10_1).f1) ((rd_T40 l0 x10_1).f2) true _ A8.out).mono ?_); rintro e w' ⟨rfl, ⟨nd, rfl⟩⟩; (try first | exact ⟨rfl, _, World.drewN_drewN _ _ _⟩ | exact ⟨rfl, _, Eq.trans (World.drewN_drewN _ _ _) (congrArg (World.drewN _) (Nat.add_assoc _ _ _))⟩); have p147 : 0 ≤ ((ji11) : Int) := of_decide_eq_true q2_; have q147 : (ji11) < (l0.length : Int) := of_decide_eq_true q2_; obtain ⟨ad147, e147, hx147_0, hx147_1, hx147_2⟩ := at_T40 HR0.out (ji11) p147 q147; obtain rfl : ad143 = ad147 := (by injection e147); have hn147_0 : ad143.block ≠ gb144 := Nat.ne_of_lt (Nat.lt_of_lt_of_le q18_ GW144.out); have hn147_1 : ad143.block ≠ gb144 := Nat.ne_of_lt (Nat.lt_of_lt_of_le q18_ GW144.out); have hn147_2 : ad143.block ≠ gb144 := Nat.ne_of_lt (Nat.lt_of_lt_of_le q18_ GW144.out); replace hx147_0 := (HB.out.cell (World.block_lt_of_cell? w _ hx147_0)).trans hx147_0; replace hx147_1 := (HB.out.cell (World.block_lt_of_cell? w _ hx147_1)).trans hx147_1; replace hx147_2 := (HB.out.cell (World.block_lt_of_cell? w _ hx147_2)).trans hx147_2; replace hx147_0 := (cell_far (p := ⟨gb144, 0, none⟩) q14_ (.string ((rd_T40 l0 x10_1).f0))).trans hx147_0; replace hx147_1 := (cell_far (p := ⟨gb144, 0, none⟩) q14_ (.string ((rd_T40 l0 x10_1).f0))).trans hx147_1; replace hx147_2 := (cell_far (p := ⟨gb144, 0, none⟩) q14_ (.string ((rd_T40 l0 x10_1).f0))).trans hx147_2; replace hx147_0 := (cell_far (p := ⟨gb144, 1, none⟩) q13_ (.int .i64 ((rd_T40 l0 x10_1).f1))).trans hx147_0; replace hx147_1 := (cell_far (p := ⟨gb144, 1, none⟩) q13_ (.int .i64 ((rd_T40 l0 x10_1).f1))).trans hx147_1; replace hx147_2 := (cell_far (p := ⟨gb144, 1, none⟩) q13_ (.int .i64 ((rd_T40 l0 x10_1).f1))).trans hx147_2; replace hx147_0 := (cell_far (p := ⟨gb144, 2, none⟩) q12_ (.int .u64 ((rd_T40 l0 x10_1).f2))).trans hx147_0; replace hx147_1 := (cell_far (p := ⟨gb144, 2, none⟩) q12_ (.int .u64 ((rd_T40 l0 x10_1).f2))).trans hx147_1; replace hx147_2 := (cell_far (p := ⟨gb144, 2, none⟩) q12_ (.int .u64 ((rd_T40 l0 x10_1).f2))).trans hx147_2; (try have hy147_0 := fun (n_ : Nat) => (show (((((w15.drewN n_).setCell ⟨gb144, 0, none⟩ (.string ((rd_T40 l0 x10_1).f0))).setCell ⟨gb144, 1, none⟩ (.int .i64 ((rd_T40 l0 x10_1).f1))).setCell ⟨gb144, 2, none⟩ (.int .u64 ((rd_T40 l0 x10_1).f2)))).cell? _ = some _ from hx147_0)); (try have hy147_1 := fun (n_ : Nat) => (show (((((w15.drewN n_).setCell ⟨gb144, 0, none⟩ (.string ((rd_T40 l0 x10_1).f0))).setCell ⟨gb144, 1, none⟩ (.int .i64 ((rd_T40 l0 x10_1).f1))).setCell ⟨gb144, 2, none⟩ (.int .u64 ((rd_T40 l0 x10_1).f2)))).cell? _ = some _ from hx147_1)); (try have hy147_2 := fun (n_ : Nat) => (show (((((w15.drewN n_).setCell ⟨gb144, 0, none⟩ (.string ((rd_T40 l0 x10_1).f0))).setCell ⟨gb144, 1, none⟩ (.int .i64 ((rd_T40 l0 x10_1).f1))).setCell ⟨gb144, 2, none⟩ (.int .u64 ((rd_T40 l0 x10_1).f2)))).cell? _ = some _ from hx147_2)); clear hn147_0; clear hn147_1; clear hn147_2; replace p147 := eq_true p147; replace q147 := eq_true q147)))
             go_roundg k1
             case measure => have := HK1.out; omega
             case rel => exact ⟨(wrap64 (x10_1 + 1)), q10_, H', ⟨by have := HK1.out; omega⟩, ⟨by repeat (first | (with_reducible first | exact HB.out | apply below_alloc | apply pw_below_drewN | apply below_drew1 | refine below_set ?_ GE144.out) | exact HB.out)⟩⟩
            ·rw [if_neg c14] at H
             have c14b0 : (Op.bytesLess (((rd_T40 l0 (ji11)).f0).toList) (((rd_T40 l0 x10_1).f0).toList)) = false := by simpa using c14
             clear c14
             obtain rfl := Option.some.inj H
             have p143 : 0 ≤ (x10_1 : Int) := of_decide_eq_true q2_
             have q143 : x10_1 < (l0.length : Int) := of_decide_eq_true q2_
             obtain ⟨ad143, e143, hx143_0, hx143_1, hx143_2⟩ := at_T40 HR0.out x10_1 p143 q143
             cases e143
             replace hx143_0 := (HB.out.cell (World.block_lt_of_cell? w _ hx143_0)).trans hx143_0
             replace hx143_1 := (HB.out.cell (World.block_lt_of_cell? w _ hx143_1)).trans hx143_1
             replace hx143_2 := (HB.out.cell (World.block_lt_of_cell? w _ hx143_2)).trans hx143_2
             replace p143 := eq_true p143
             replace q143 := eq_true q143
             go_wp2_with (first | ((with_reducible refine gate_dst (N := 4) rfl ?_); refine box_event ?hg (N := 4) ?hd (cs := #[.string (⟨#[]⟩ : ByteArray), .int .i64 0, .int .u64 0]) (t := 40) ?hr ?_; (case hd => rfl); (case hg => rfl); (case hr => first | (go_simp; done) | (go_simp; rfl)); intro gb144 hg w17 hbox hb; have n0_ := Aside0.mk (below_step q0_ hb); have n1_ := Aside0.mk (hbox); have n2_ := Aside0.mk ((by rw [hg]; exact (below_size q0_) : w.heap.size ≤ gb144)); have n3_ := Aside0.mk ((by rw [hg]; exact (below_size q0_) : w.heap.size ≤ gb144)); clear HB; have HB := n0_; have BK144 := n1_; have GW144 := n2_; have GE144 := n3_; clear n0_ n1_ n2_ n3_; clear hb hbox hg; have hcz18_0 : w17.cell? ⟨gb144, 0, none⟩ = some (.string (⟨#[]⟩ : ByteArray)) := (blk_cell BK144.out 0).trans rfl; have hcz18_1 : w17.cell? ⟨gb144, 1, none⟩ = some (.int .i64 0) := (blk_cell BK144.out 1).trans rfl; have hcz18_2 : w17.cell? ⟨gb144, 2, none⟩ = some (.int .u64 0) := (blk_cell BK144.out 2).trans rfl; have hfz18_0 := blk_frozen BK144.out 0; have hfz18_1 := blk_frozen BK144.out 1; have hfz18_2 := blk_frozen BK144.out 2) | (go_at_call 61; (with_reducible refine (term_variable.calls k1 ((rd_T40 l0 x10_1).f0) true _ A6.out).mono ?_); rintro e w' ⟨rfl, ⟨nd, rfl⟩⟩; (try first | exact ⟨rfl, _, World.drewN_drewN _ _ _⟩ | exact ⟨rfl, _, Eq.trans (World.drewN_drewN _ _ _) (congrArg (World.drewN _) (Nat.add_assoc _ _ _))⟩)) | (go_at_call 62; (with_reducible refine (bits_Ok.calls ((rd_T40 l0 x10_1).f1) ((rd_T40 l0 x10_1).f2) true _ A8.out).mono ?_); rintro e w' ⟨rfl, ⟨nd, rfl⟩⟩; (try first | exact ⟨rfl, _, World.drewN_drewN _ _ _⟩ | exact ⟨rfl, _, Eq.trans (World.drewN_drewN _ _ _) (congrArg (World.drewN _) (Nat.add_assoc _ _ _))⟩); have p147 : 0 ≤ ((ji11) : Int) := of_decide_eq_true q2_; have q147 : (ji11) < (l0.length : Int) := of_decide_eq_true q2_; obtain ⟨ad147, e147, hx147_0, hx147_1, hx147_2⟩ := at_T40 HR0.out (ji11) p147 q147; obtain rfl : ad143 = ad147 := (by injection e147); have hn147_0 : ad143.block ≠ gb144 := Nat.ne_of_lt (Nat.lt_of_lt_of_le q18_ GW144.out); have hn147_1 : ad143.block ≠ gb144 := Nat.ne_of_lt (Nat.lt_of_lt_of_le q18_ GW144.out); have hn147_2 : ad143.block ≠ gb144 := Nat.ne_of_lt (Nat.lt_of_lt_of_le q18_ GW144.out); replace hx147_0 := (HB.out.cell (World.block_lt_of_cell? w _ hx147_0)).trans hx147_0; replace hx147_1 := (HB.out.cell (World.block_lt_of_cell? w _ hx147_1)).trans hx147_1; replace hx147_2 := (HB.out.cell (World.block_lt_of_cell? w _ hx147_2)).trans hx147_2; replace hx147_0 := (cell_far (p := ⟨gb144, 0, none⟩) q14_ (.string ((rd_T40 l0 x10_1).f0))).trans hx147_0; replace hx147_1 := (cell_far (p := ⟨gb144, 0, none⟩) q14_ (.string ((rd_T40 l0 x10_1).f0))).trans hx147_1; replace hx147_2 := (cell_far (p := ⟨gb144, 0, none⟩) q14_ (.string ((rd_T40 l0 x10_1).f0))).trans hx147_2; replace hx147_0 := (cell_far (p := ⟨gb144, 1, none⟩) q13_ (.int .i64 ((rd_T40 l0 x10_1).f1))).trans hx147_0; replace hx147_1 := (cell_far (p := ⟨gb144, 1, none⟩) q13_ (.int .i64 ((rd_T40 l0 x10_1).f1))).trans hx147_1; replace hx147_2 := (cell_far (p := ⟨gb144, 1, none⟩) q13_ (.int .i64 ((rd_T40 l0 x10_1).f1))).trans hx147_2; replace hx147_0 := (cell_far (p := ⟨gb144, 2, none⟩) q12_ (.int .u64 ((rd_T40 l0 x10_1).f2))).trans hx147_0; replace hx147_1 := (cell_far (p := ⟨gb144, 2, none⟩) q12_ (.int .u64 ((rd_T40 l0 x10_1).f2))).trans hx147_1; replace hx147_2 := (cell_far (p := ⟨gb144, 2, none⟩) q12_ (.int .u64 ((rd_T40 l0 x10_1).f2))).trans hx147_2; (try have hy147_0 := fun (n_ : Nat) => (show (((((w17.drewN n_).setCell ⟨gb144, 0, none⟩ (.string ((rd_T40 l0 x10_1).f0))).setCell ⟨gb144, 1, none⟩ (.int .i64 ((rd_T40 l0 x10_1).f1))).setCell ⟨gb144, 2, none⟩ (.int .u64 ((rd_T40 l0 x10_1).f2)))).cell? _ = some _ from hx147_0)); (try have hy147_1 := fun (n_ : Nat) => (show (((((w17.drewN n_).setCell ⟨gb144, 0, none⟩ (.string ((rd_T40 l0 x10_1).f0))).setCell ⟨gb144, 1, none⟩ (.int .i64 ((rd_T40 l0 x10_1).f1))).setCell ⟨gb144, 2, none⟩ (.int .u64 ((rd_T40 l0 x10_1).f2)))).cell? _ = some _ from hx147_1)); (try have hy147_2 := fun (n_ : Nat) => (show (((((w17.drewN n_).setCell ⟨gb144, 0, none⟩ (.string ((rd_T40 l0 x10_1).f0))).setCell ⟨gb144, 1, none⟩ (.int .i64 ((rd_T40 l0 x10_1).f1))).setCell ⟨gb144, 2, none⟩ (.int .u64 ((rd_T40 l0 x10_1).f2)))).cell? _ = some _ from hx147_2)); clear hn147_0; clear hn147_1; clear hn147_2; replace p147 := eq_true p147; replace q147 := eq_true q147))
             repeat (go_quiet (first | ((with_reducible refine gate_dst (N := 4) rfl ?_); refine box_event ?hg (N := 4) ?hd (cs := #[.string (⟨#[]⟩ : ByteArray), .int .i64 0, .int .u64 0]) (t := 40) ?hr ?_; (case hd => rfl); (case hg => rfl); (case hr => first | (go_simp; done) | (go_simp; rfl)); intro gb144 hg w17 hbox hb; have n0_ := Aside0.mk (below_step q0_ hb); have n1_ := Aside0.mk (hbox); have n2_ := Aside0.mk ((by rw [hg]; exact (below_size q0_) : w.heap.size ≤ gb144)); have n3_ := Aside0.mk ((by rw [hg]; exact (below_size q0_) : w.heap.size ≤ gb144)); clear HB; have HB := n0_; have BK144 := n1_; have GW144 := n2_; have GE144 := n3_; clear n0_ n1_ n2_ n3_; clear hb hbox hg; have hcz18_0 : w17.cell? ⟨gb144, 0, none⟩ = some (.string (⟨#[]⟩ : ByteArray)) := (blk_cell BK144.out 0).trans rfl; have hcz18_1 : w17.cell? ⟨gb144, 1, none⟩ = some (.int .i64 0) := (blk_cell BK144.out 1).trans rfl; have hcz18_2 : w17.cell? ⟨gb144, 2, none⟩ = some (.int .u64 0) := (blk_cell BK144.out 2).trans rfl; have hfz18_0 := blk_frozen BK144.out 0; have hfz18_1 := blk_frozen BK144.out 1; have hfz18_2 := blk_frozen BK144.out 2) | (go_at_call 61; (with_reducible refine (term_variable.calls k1 ((rd_T40 l0 x10_1).f0) true _ A6.out).mono ?_); rintro e w' ⟨rfl, ⟨nd, rfl⟩⟩; (try first | exact ⟨rfl, _, World.drewN_drewN _ _ _⟩ | exact ⟨rfl, _, Eq.trans (World.drewN_drewN _ _ _) (congrArg (World.drewN _) (Nat.add_assoc _ _ _))⟩)) | (go_at_call 62; (with_reducible refine (bits_Ok.calls ((rd_T40 l0 x10_1).f1) ((rd_T40 l0 x10_1).f2) true _ A8.out).mono ?_); rintro e w' ⟨rfl, ⟨nd, rfl⟩⟩; (try first | exact ⟨rfl, _, World.drewN_drewN _ _ _⟩ | exact ⟨rfl, _, Eq.trans (World.drewN_drewN _ _ _) (congrArg (World.drewN _) (Nat.add_assoc _ _ _))⟩); have p147 : 0 ≤ ((ji11) : Int) := of_decide_eq_true q2_; have q147 : (ji11) < (l0.length : Int) := of_decide_eq_true q2_; obtain ⟨ad147, e147, hx147_0, hx147_1, hx147_2⟩ := at_T40 HR0.out (ji11) p147 q147; obtain rfl : ad143 = ad147 := (by injection e147); have hn147_0 : ad143.block ≠ gb144 := Nat.ne_of_lt (Nat.lt_of_lt_of_le q18_ GW144.out); have hn147_1 : ad143.block ≠ gb144 := Nat.ne_of_lt (Nat.lt_of_lt_of_le q18_ GW144.out); have hn147_2 : ad143.block ≠ gb144 := Nat.ne_of_lt (Nat.lt_of_lt_of_le q18_ GW144.out); replace hx147_0 := (HB.out.cell (World.block_lt_of_cell? w _ hx147_0)).trans hx147_0; replace hx147_1 := (HB.out.cell (World.block_lt_of_cell? w _ hx147_1)).trans hx147_1; replace hx147_2 := (HB.out.cell (World.block_lt_of_cell? w _ hx147_2)).trans hx147_2; replace hx147_0 := (cell_far (p := ⟨gb144, 0, none⟩) q14_ (.string ((rd_T40 l0 x10_1).f0))).trans hx147_0; replace hx147_1 := (cell_far (p := ⟨gb144, 0, none⟩) q14_ (.string ((rd_T40 l0 x10_1).f0))).trans hx147_1; replace hx147_2 := (cell_far (p := ⟨gb144, 0, none⟩) q14_ (.string ((rd_T40 l0 x10_1).f0))).trans hx147_2; replace hx147_0 := (cell_far (p := ⟨gb144, 1, none⟩) q13_ (.int .i64 ((rd_T40 l0 x10_1).f1))).trans hx147_0; replace hx147_1 := (cell_far (p := ⟨gb144, 1, none⟩) q13_ (.int .i64 ((rd_T40 l0 x10_1).f1))).trans hx147_1; replace hx147_2 := (cell_far (p := ⟨gb144, 1, none⟩) q13_ (.int .i64 ((rd_T40 l0 x10_1).f1))).trans hx147_2; replace hx147_0 := (cell_far (p := ⟨gb144, 2, none⟩) q12_ (.int .u64 ((rd_T40 l0 x10_1).f2))).trans hx147_0; replace hx147_1 := (cell_far (p := ⟨gb144, 2, none⟩) q12_ (.int .u64 ((rd_T40 l0 x10_1).f2))).trans hx147_1; replace hx147_2 := (cell_far (p := ⟨gb144, 2, none⟩) q12_ (.int .u64 ((rd_T40 l0 x10_1).f2))).trans hx147_2; (try have hy147_0 := fun (n_ : Nat) => (show (((((w17.drewN n_).setCell ⟨gb144, 0, none⟩ (.string ((rd_T40 l0 x10_1).f0))).setCell ⟨gb144, 1, none⟩ (.int .i64 ((rd_T40 l0 x10_1).f1))).setCell ⟨gb144, 2, none⟩ (.int .u64 ((rd_T40 l0 x10_1).f2)))).cell? _ = some _ from hx147_0)); (try have hy147_1 := fun (n_ : Nat) => (show (((((w17.drewN n_).setCell ⟨gb144, 0, none⟩ (.string ((rd_T40 l0 x10_1).f0))).setCell ⟨gb144, 1, none⟩ (.int .i64 ((rd_T40 l0 x10_1).f1))).setCell ⟨gb144, 2, none⟩ (.int .u64 ((rd_T40 l0 x10_1).f2)))).cell? _ = some _ from hx147_1)); (try have hy147_2 := fun (n_ : Nat) => (show (((((w17.drewN n_).setCell ⟨gb144, 0, none⟩ (.string ((rd_T40 l0 x10_1).f0))).setCell ⟨gb144, 1, none⟩ (.int .i64 ((rd_T40 l0 x10_1).f1))).setCell ⟨gb144, 2, none⟩ (.int .u64 ((rd_T40 l0 x10_1).f2)))).cell? _ = some _ from hx147_2)); clear hn147_0; clear hn147_1; clear hn147_2; replace p147 := eq_true p147; replace q147 := eq_true q147)); try go_wp2_with (first | ((with_reducible refine gate_dst (N := 4) rfl ?_); refine box_event ?hg (N := 4) ?hd (cs := #[.string (⟨#[]⟩ : ByteArray), .int .i64 0, .int .u64 0]) (t := 40) ?hr ?_; (case hd => rfl); (case hg => rfl); (case hr => first | (go_simp; done) | (go_simp; rfl)); intro gb144 hg w17 hbox hb; have n0_ := Aside0.mk (below_step q0_ hb); have n1_ := Aside0.mk (hbox); have n2_ := Aside0.mk ((by rw [hg]; exact (below_size q0_) : w.heap.size ≤ gb144)); have n3_ := Aside0.mk ((by rw [hg]; exact (below_size q0_) : w.heap.size ≤ gb144)); clear HB; have HB := n0_; have BK144 := n1_; have GW144 := n2_; have GE144 := n3_; clear n0_ n1_ n2_ n3_; clear hb hbox hg; have hcz18_0 : w17.cell? ⟨gb144, 0, none⟩ = some (.string (⟨#[]⟩ : ByteArray)) := (blk_cell BK144.out 0).trans rfl; have hcz18_1 : w17.cell? ⟨gb144, 1, none⟩ = some (.int .i64 0) := (blk_cell BK144.out 1).trans rfl; have hcz18_2 : w17.cell? ⟨gb144, 2, none⟩ = some (.int .u64 0) := (blk_cell BK144.out 2).trans rfl; have hfz18_0 := blk_frozen BK144.out 0; have hfz18_1 := blk_frozen BK144.out 1; have hfz18_2 := blk_frozen BK144.out 2) | (go_at_call 61; (with_reducible refine (term_variable.calls k1 ((rd_T40 l0 x10_1).f0) true _ A6.out).mono ?_); rintro e w' ⟨rfl, ⟨nd, rfl⟩⟩; (try first | exact ⟨rfl, _, World.drewN_drewN _ _ _⟩ | exact ⟨rfl, _, Eq.trans (World.drewN_drewN _ _ _) (congrArg (World.drewN _) (Nat.add_assoc _ _ _))⟩)) | (go_at_call 62; (with_reducible refine (bits_Ok.calls ((rd_T40 l0 x10_1).f1) ((rd_T40 l0 x10_1).f2) true _ A8.out).mono ?_); rintro e w' ⟨rfl, ⟨nd, rfl⟩⟩; (try first | exact ⟨rfl, _, World.drewN_drewN _ _ _⟩ | exact ⟨rfl, _, Eq.trans (World.drewN_drewN _ _ _) (congrArg (World.drewN _) (Nat.add_assoc _ _ _))⟩); have p147 : 0 ≤ ((ji11) : Int) := of_decide_eq_true q2_; have q147 : (ji11) < (l0.length : Int) := of_decide_eq_true q2_; obtain ⟨ad147, e147, hx147_0, hx147_1, hx147_2⟩ := at_T40 HR0.out (ji11) p147 q147; obtain rfl : ad143 = ad147 := (by injection e147); have hn147_0 : ad143.block ≠ gb144 := Nat.ne_of_lt (Nat.lt_of_lt_of_le q18_ GW144.out); have hn147_1 : ad143.block ≠ gb144 := Nat.ne_of_lt (Nat.lt_of_lt_of_le q18_ GW144.out); have hn147_2 : ad143.block ≠ gb144 := Nat.ne_of_lt (Nat.lt_of_lt_of_le q18_ GW144.out); replace hx147_0 := (HB.out.cell (World.block_lt_of_cell? w _ hx147_0)).trans hx147_0; replace hx147_1 := (HB.out.cell (World.block_lt_of_cell? w _ hx147_1)).trans hx147_1; replace hx147_2 := (HB.out.cell (World.block_lt_of_cell? w _ hx147_2)).trans hx147_2; replace hx147_0 := (cell_far (p := ⟨gb144, 0, none⟩) q14_ (.string ((rd_T40 l0 x10_1).f0))).trans hx147_0; replace hx147_1 := (cell_far (p := ⟨gb144, 0, none⟩) q14_ (.string ((rd_T40 l0 x10_1).f0))).trans hx147_1; replace hx147_2 := (cell_far (p := ⟨gb144, 0, none⟩) q14_ (.string ((rd_T40 l0 x10_1).f0))).trans hx147_2; replace hx147_0 := (cell_far (p := ⟨gb144, 1, none⟩) q13_ (.int .i64 ((rd_T40 l0 x10_1).f1))).trans hx147_0; replace hx147_1 := (cell_far (p := ⟨gb144, 1, none⟩) q13_ (.int .i64 ((rd_T40 l0 x10_1).f1))).trans hx147_1; replace hx147_2 := (cell_far (p := ⟨gb144, 1, none⟩) q13_ (.int .i64 ((rd_T40 l0 x10_1).f1))).trans hx147_2; replace hx147_0 := (cell_far (p := ⟨gb144, 2, none⟩) q12_ (.int .u64 ((rd_T40 l0 x10_1).f2))).trans hx147_0; replace hx147_1 := (cell_far (p := ⟨gb144, 2, none⟩) q12_ (.int .u64 ((rd_T40 l0 x10_1).f2))).trans hx147_1; replace hx147_2 := (cell_far (p := ⟨gb144, 2, none⟩) q12_ (.int .u64 ((rd_T40 l0 x10_1).f2))).trans hx147_2; (try have hy147_0 := fun (n_ : Nat) => (show (((((w17.drewN n_).setCell ⟨gb144, 0, none⟩ (.string ((rd_T40 l0 x10_1).f0))).setCell ⟨gb144, 1, none⟩ (.int .i64 ((rd_T40 l0 x10_1).f1))).setCell ⟨gb144, 2, none⟩ (.int .u64 ((rd_T40 l0 x10_1).f2)))).cell? _ = some _ from hx147_0)); (try have hy147_1 := fun (n_ : Nat) => (show (((((w17.drewN n_).setCell ⟨gb144, 0, none⟩ (.string ((rd_T40 l0 x10_1).f0))).setCell ⟨gb144, 1, none⟩ (.int .i64 ((rd_T40 l0 x10_1).f1))).setCell ⟨gb144, 2, none⟩ (.int .u64 ((rd_T40 l0 x10_1).f2)))).cell? _ = some _ from hx147_1)); (try have hy147_2 := fun (n_ : Nat) => (show (((((w17.drewN n_).setCell ⟨gb144, 0, none⟩ (.string ((rd_T40 l0 x10_1).f0))).setCell ⟨gb144, 1, none⟩ (.int .i64 ((rd_T40 l0 x10_1).f1))).setCell ⟨gb144, 2, none⟩ (.int .u64 ((rd_T40 l0 x10_1).f2)))).cell? _ = some _ from hx147_2)); clear hn147_0; clear hn147_1; clear hn147_2; replace p147 := eq_true p147; replace q147 := eq_true q147)))
             go_ret
             exact ⟨by first | rfl | (simp [errW_none, errW_some] <;> rfl) | (simp only [← hji11]; first | rfl | (simp [errW_none, errW_some] <;> rfl)) | (simp [*, errW_none, errW_some] <;> rfl), by repeat (first | (with_reducible first | exact HB.out | apply below_alloc | apply pw_below_drewN | apply below_drew1 | refine below_set ?_ GE144.out) | exact HB.out)⟩
           ·rw [if_neg c13] at H
            exact absurd H (by simp)
          ·rw [if_neg c12] at H
           exact absurd H (by simp)
         ·rw [if_neg c10] at H
          have c10b0 : decide (0 < x10_1) = false := decide_eq_false c10
          clear c10
          have H' := Aside0.mk H
          clear H
          have p143 : 0 ≤ (x10_1 : Int) := of_decide_eq_true q2_
          have q143 : x10_1 < (l0.length : Int) := of_decide_eq_true q2_
          obtain ⟨ad143, e143, hx143_0, hx143_1, hx143_2⟩ := at_T40 HR0.out x10_1 p143 q143
          cases e143
          replace hx143_0 := (HB.out.cell (World.block_lt_of_cell? w _ hx143_0)).trans hx143_0
          replace hx143_1 := (HB.out.cell (World.block_lt_of_cell? w _ hx143_1)).trans hx143_1
          replace hx143_2 := (HB.out.cell (World.block_lt_of_cell? w _ hx143_2)).trans hx143_2
          replace p143 := eq_true p143
          replace q143 := eq_true q143
          go_wp2_with (first | ((with_reducible refine gate_dst (N := 4) rfl ?_); refine box_event ?hg (N := 4) ?hd (cs := #[.string (⟨#[]⟩ : ByteArray), .int .i64 0, .int .u64 0]) (t := 40) ?hr ?_; (case hd => rfl); (case hg => rfl); (case hr => first | (go_simp; done) | (go_simp; rfl)); intro gb144 hg w19 hbox hb; have n0_ := Aside0.mk (below_step q0_ hb); have n1_ := Aside0.mk (hbox); have n2_ := Aside0.mk ((by rw [hg]; exact (below_size q0_) : w.heap.size ≤ gb144)); have n3_ := Aside0.mk ((by rw [hg]; exact (below_size q0_) : w.heap.size ≤ gb144)); clear HB; have HB := n0_; have BK144 := n1_; have GW144 := n2_; have GE144 := n3_; clear n0_ n1_ n2_ n3_; clear hb hbox hg; have hcz20_0 : w19.cell? ⟨gb144, 0, none⟩ = some (.string (⟨#[]⟩ : ByteArray)) := (blk_cell BK144.out 0).trans rfl; have hcz20_1 : w19.cell? ⟨gb144, 1, none⟩ = some (.int .i64 0) := (blk_cell BK144.out 1).trans rfl; have hcz20_2 : w19.cell? ⟨gb144, 2, none⟩ = some (.int .u64 0) := (blk_cell BK144.out 2).trans rfl; have hfz20_0 := blk_frozen BK144.out 0; have hfz20_1 := blk_frozen BK144.out 1; have hfz20_2 := blk_frozen BK144.out 2) | (go_at_call 61; (with_reducible refine (term_variable.calls k1 ((rd_T40 l0 x10_1).f0) true _ A6.out).mono ?_); rintro e w' ⟨rfl, ⟨nd, rfl⟩⟩; (try first | exact ⟨rfl, _, World.drewN_drewN _ _ _⟩ | exact ⟨rfl, _, Eq.trans (World.drewN_drewN _ _ _) (congrArg (World.drewN _) (Nat.add_assoc _ _ _))⟩)) | (go_at_call 62; (with_reducible refine (bits_Ok.calls ((rd_T40 l0 x10_1).f1) ((rd_T40 l0 x10_1).f2) true _ A8.out).mono ?_); rintro e w' ⟨rfl, ⟨nd, rfl⟩⟩; (try first | exact ⟨rfl, _, World.drewN_drewN _ _ _⟩ | exact ⟨rfl, _, Eq.trans (World.drewN_drewN _ _ _) (congrArg (World.drewN _) (Nat.add_assoc _ _ _))⟩)))
          repeat (go_quiet (first | ((with_reducible refine gate_dst (N := 4) rfl ?_); refine box_event ?hg (N := 4) ?hd (cs := #[.string (⟨#[]⟩ : ByteArray), .int .i64 0, .int .u64 0]) (t := 40) ?hr ?_; (case hd => rfl); (case hg => rfl); (case hr => first | (go_simp; done) | (go_simp; rfl)); intro gb144 hg w19 hbox hb; have n0_ := Aside0.mk (below_step q0_ hb); have n1_ := Aside0.mk (hbox); have n2_ := Aside0.mk ((by rw [hg]; exact (below_size q0_) : w.heap.size ≤ gb144)); have n3_ := Aside0.mk ((by rw [hg]; exact (below_size q0_) : w.heap.size ≤ gb144)); clear HB; have HB := n0_; have BK144 := n1_; have GW144 := n2_; have GE144 := n3_; clear n0_ n1_ n2_ n3_; clear hb hbox hg; have hcz20_0 : w19.cell? ⟨gb144, 0, none⟩ = some (.string (⟨#[]⟩ : ByteArray)) := (blk_cell BK144.out 0).trans rfl; have hcz20_1 : w19.cell? ⟨gb144, 1, none⟩ = some (.int .i64 0) := (blk_cell BK144.out 1).trans rfl; have hcz20_2 : w19.cell? ⟨gb144, 2, none⟩ = some (.int .u64 0) := (blk_cell BK144.out 2).trans rfl; have hfz20_0 := blk_frozen BK144.out 0; have hfz20_1 := blk_frozen BK144.out 1; have hfz20_2 := blk_frozen BK144.out 2) | (go_at_call 61; (with_reducible refine (term_variable.calls k1 ((rd_T40 l0 x10_1).f0) true _ A6.out).mono ?_); rintro e w' ⟨rfl, ⟨nd, rfl⟩⟩; (try first | exact ⟨rfl, _, World.drewN_drewN _ _ _⟩ | exact ⟨rfl, _, Eq.trans (World.drewN_drewN _ _ _) (congrArg (World.drewN _) (Nat.add_assoc _ _ _))⟩)) | (go_at_call 62; (with_reducible refine (bits_Ok.calls ((rd_T40 l0 x10_1).f1) ((rd_T40 l0 x10_1).f2) true _ A8.out).mono ?_); rintro e w' ⟨rfl, ⟨nd, rfl⟩⟩; (try first | exact ⟨rfl, _, World.drewN_drewN _ _ _⟩ | exact ⟨rfl, _, Eq.trans (World.drewN_drewN _ _ _) (congrArg (World.drewN _) (Nat.add_assoc _ _ _))⟩))); try go_wp2_with (first | ((with_reducible refine gate_dst (N := 4) rfl ?_); refine box_event ?hg (N := 4) ?hd (cs := #[.string (⟨#[]⟩ : ByteArray), .int .i64 0, .int .u64 0]) (t := 40) ?hr ?_; (case hd => rfl); (case hg => rfl); (case hr => first | (go_simp; done) | (go_simp; rfl)); intro gb144 hg w19 hbox hb; have n0_ := Aside0.mk (below_step q0_ hb); have n1_ := Aside0.mk (hbox); have n2_ := Aside0.mk ((by rw [hg]; exact (below_size q0_) : w.heap.size ≤ gb144)); have n3_ := Aside0.mk ((by rw [hg]; exact (below_size q0_) : w.heap.size ≤ gb144)); clear HB; have HB := n0_; have BK144 := n1_; have GW144 := n2_; have GE144 := n3_; clear n0_ n1_ n2_ n3_; clear hb hbox hg; have hcz20_0 : w19.cell? ⟨gb144, 0, none⟩ = some (.string (⟨#[]⟩ : ByteArray)) := (blk_cell BK144.out 0).trans rfl; have hcz20_1 : w19.cell? ⟨gb144, 1, none⟩ = some (.int .i64 0) := (blk_cell BK144.out 1).trans rfl; have hcz20_2 : w19.cell? ⟨gb144, 2, none⟩ = some (.int .u64 0) := (blk_cell BK144.out 2).trans rfl; have hfz20_0 := blk_frozen BK144.out 0; have hfz20_1 := blk_frozen BK144.out 1; have hfz20_2 := blk_frozen BK144.out 2) | (go_at_call 61; (with_reducible refine (term_variable.calls k1 ((rd_T40 l0 x10_1).f0) true _ A6.out).mono ?_); rintro e w' ⟨rfl, ⟨nd, rfl⟩⟩; (try first | exact ⟨rfl, _, World.drewN_drewN _ _ _⟩ | exact ⟨rfl, _, Eq.trans (World.drewN_drewN _ _ _) (congrArg (World.drewN _) (Nat.add_assoc _ _ _))⟩)) | (go_at_call 62; (with_reducible refine (bits_Ok.calls ((rd_T40 l0 x10_1).f1) ((rd_T40 l0 x10_1).f2) true _ A8.out).mono ?_); rintro e w' ⟨rfl, ⟨nd, rfl⟩⟩; (try first | exact ⟨rfl, _, World.drewN_drewN _ _ _⟩ | exact ⟨rfl, _, Eq.trans (World.drewN_drewN _ _ _) (congrArg (World.drewN _) (Nat.add_assoc _ _ _))⟩))))
          go_roundg k1
          case measure => have := HK1.out; omega
          case rel => exact ⟨(wrap64 (x10_1 + 1)), q10_, H', ⟨by have := HK1.out; omega⟩, ⟨by repeat (first | (with_reducible first | exact HB.out | apply below_alloc | apply pw_below_drewN | apply below_drew1 | refine below_set ?_ GE144.out) | exact HB.out)⟩⟩
        ·replace c9 := Bool.eq_false_iff.mpr c9
         subst c9
         have H1 : (some 8) = some r := by rw [if_neg (show ¬ (false = true) by decide)] at H; exact H
         clear H
         have H := H1
         clear H1
         obtain rfl := Option.some.inj H
         have p143 : 0 ≤ (x10_1 : Int) := of_decide_eq_true q2_
         have q143 : x10_1 < (l0.length : Int) := of_decide_eq_true q2_
         obtain ⟨ad143, e143, hx143_0, hx143_1, hx143_2⟩ := at_T40 HR0.out x10_1 p143 q143
         cases e143
         replace hx143_0 := (HB.out.cell (World.block_lt_of_cell? w _ hx143_0)).trans hx143_0
         replace hx143_1 := (HB.out.cell (World.block_lt_of_cell? w _ hx143_1)).trans hx143_1
         replace hx143_2 := (HB.out.cell (World.block_lt_of_cell? w _ hx143_2)).trans hx143_2
         replace p143 := eq_true p143
         replace q143 := eq_true q143
         go_wp2_with (first | ((with_reducible refine gate_dst (N := 4) rfl ?_); refine box_event ?hg (N := 4) ?hd (cs := #[.string (⟨#[]⟩ : ByteArray), .int .i64 0, .int .u64 0]) (t := 40) ?hr ?_; (case hd => rfl); (case hg => rfl); (case hr => first | (go_simp; done) | (go_simp; rfl)); intro gb144 hg w21 hbox hb; have n0_ := Aside0.mk (below_step q0_ hb); have n1_ := Aside0.mk (hbox); have n2_ := Aside0.mk ((by rw [hg]; exact (below_size q0_) : w.heap.size ≤ gb144)); have n3_ := Aside0.mk ((by rw [hg]; exact (below_size q0_) : w.heap.size ≤ gb144)); clear HB; have HB := n0_; have BK144 := n1_; have GW144 := n2_; have GE144 := n3_; clear n0_ n1_ n2_ n3_; clear hb hbox hg; have hcz22_0 : w21.cell? ⟨gb144, 0, none⟩ = some (.string (⟨#[]⟩ : ByteArray)) := (blk_cell BK144.out 0).trans rfl; have hcz22_1 : w21.cell? ⟨gb144, 1, none⟩ = some (.int .i64 0) := (blk_cell BK144.out 1).trans rfl; have hcz22_2 : w21.cell? ⟨gb144, 2, none⟩ = some (.int .u64 0) := (blk_cell BK144.out 2).trans rfl; have hfz22_0 := blk_frozen BK144.out 0; have hfz22_1 := blk_frozen BK144.out 1; have hfz22_2 := blk_frozen BK144.out 2) | (go_at_call 61; (with_reducible refine (term_variable.calls k1 ((rd_T40 l0 x10_1).f0) true _ A6.out).mono ?_); rintro e w' ⟨rfl, ⟨nd, rfl⟩⟩; (try first | exact ⟨rfl, _, World.drewN_drewN _ _ _⟩ | exact ⟨rfl, _, Eq.trans (World.drewN_drewN _ _ _) (congrArg (World.drewN _) (Nat.add_assoc _ _ _))⟩)) | (go_at_call 62; (with_reducible refine (bits_Ok.calls ((rd_T40 l0 x10_1).f1) ((rd_T40 l0 x10_1).f2) false _ A8.out).mono ?_); rintro e w' ⟨rfl, ⟨nd, rfl⟩⟩; (try first | exact ⟨rfl, _, World.drewN_drewN _ _ _⟩ | exact ⟨rfl, _, Eq.trans (World.drewN_drewN _ _ _) (congrArg (World.drewN _) (Nat.add_assoc _ _ _))⟩)))
         repeat (go_quiet (first | ((with_reducible refine gate_dst (N := 4) rfl ?_); refine box_event ?hg (N := 4) ?hd (cs := #[.string (⟨#[]⟩ : ByteArray), .int .i64 0, .int .u64 0]) (t := 40) ?hr ?_; (case hd => rfl); (case hg => rfl); (case hr => first | (go_simp; done) | (go_simp; rfl)); intro gb144 hg w21 hbox hb; have n0_ := Aside0.mk (below_step q0_ hb); have n1_ := Aside0.mk (hbox); have n2_ := Aside0.mk ((by rw [hg]; exact (below_size q0_) : w.heap.size ≤ gb144)); have n3_ := Aside0.mk ((by rw [hg]; exact (below_size q0_) : w.heap.size ≤ gb144)); clear HB; have HB := n0_; have BK144 := n1_; have GW144 := n2_; have GE144 := n3_; clear n0_ n1_ n2_ n3_; clear hb hbox hg; have hcz22_0 : w21.cell? ⟨gb144, 0, none⟩ = some (.string (⟨#[]⟩ : ByteArray)) := (blk_cell BK144.out 0).trans rfl; have hcz22_1 : w21.cell? ⟨gb144, 1, none⟩ = some (.int .i64 0) := (blk_cell BK144.out 1).trans rfl; have hcz22_2 : w21.cell? ⟨gb144, 2, none⟩ = some (.int .u64 0) := (blk_cell BK144.out 2).trans rfl; have hfz22_0 := blk_frozen BK144.out 0; have hfz22_1 := blk_frozen BK144.out 1; have hfz22_2 := blk_frozen BK144.out 2) | (go_at_call 61; (with_reducible refine (term_variable.calls k1 ((rd_T40 l0 x10_1).f0) true _ A6.out).mono ?_); rintro e w' ⟨rfl, ⟨nd, rfl⟩⟩; (try first | exact ⟨rfl, _, World.drewN_drewN _ _ _⟩ | exact ⟨rfl, _, Eq.trans (World.drewN_drewN _ _ _) (congrArg (World.drewN _) (Nat.add_assoc _ _ _))⟩)) | (go_at_call 62; (with_reducible refine (bits_Ok.calls ((rd_T40 l0 x10_1).f1) ((rd_T40 l0 x10_1).f2) false _ A8.out).mono ?_); rintro e w' ⟨rfl, ⟨nd, rfl⟩⟩; (try first | exact ⟨rfl, _, World.drewN_drewN _ _ _⟩ | exact ⟨rfl, _, Eq.trans (World.drewN_drewN _ _ _) (congrArg (World.drewN _) (Nat.add_assoc _ _ _))⟩))); try go_wp2_with (first | ((with_reducible refine gate_dst (N := 4) rfl ?_); refine box_event ?hg (N := 4) ?hd (cs := #[.string (⟨#[]⟩ : ByteArray), .int .i64 0, .int .u64 0]) (t := 40) ?hr ?_; (case hd => rfl); (case hg => rfl); (case hr => first | (go_simp; done) | (go_simp; rfl)); intro gb144 hg w21 hbox hb; have n0_ := Aside0.mk (below_step q0_ hb); have n1_ := Aside0.mk (hbox); have n2_ := Aside0.mk ((by rw [hg]; exact (below_size q0_) : w.heap.size ≤ gb144)); have n3_ := Aside0.mk ((by rw [hg]; exact (below_size q0_) : w.heap.size ≤ gb144)); clear HB; have HB := n0_; have BK144 := n1_; have GW144 := n2_; have GE144 := n3_; clear n0_ n1_ n2_ n3_; clear hb hbox hg; have hcz22_0 : w21.cell? ⟨gb144, 0, none⟩ = some (.string (⟨#[]⟩ : ByteArray)) := (blk_cell BK144.out 0).trans rfl; have hcz22_1 : w21.cell? ⟨gb144, 1, none⟩ = some (.int .i64 0) := (blk_cell BK144.out 1).trans rfl; have hcz22_2 : w21.cell? ⟨gb144, 2, none⟩ = some (.int .u64 0) := (blk_cell BK144.out 2).trans rfl; have hfz22_0 := blk_frozen BK144.out 0; have hfz22_1 := blk_frozen BK144.out 1; have hfz22_2 := blk_frozen BK144.out 2) | (go_at_call 61; (with_reducible refine (term_variable.calls k1 ((rd_T40 l0 x10_1).f0) true _ A6.out).mono ?_); rintro e w' ⟨rfl, ⟨nd, rfl⟩⟩; (try first | exact ⟨rfl, _, World.drewN_drewN _ _ _⟩ | exact ⟨rfl, _, Eq.trans (World.drewN_drewN _ _ _) (congrArg (World.drewN _) (Nat.add_assoc _ _ _))⟩)) | (go_at_call 62; (with_reducible refine (bits_Ok.calls ((rd_T40 l0 x10_1).f1) ((rd_T40 l0 x10_1).f2) false _ A8.out).mono ?_); rintro e w' ⟨rfl, ⟨nd, rfl⟩⟩; (try first | exact ⟨rfl, _, World.drewN_drewN _ _ _⟩ | exact ⟨rfl, _, Eq.trans (World.drewN_drewN _ _ _) (congrArg (World.drewN _) (Nat.add_assoc _ _ _))⟩))))
         go_ret
         exact ⟨by first | rfl | (simp [errW_none, errW_some] <;> rfl) | (simp [*, errW_none, errW_some] <;> rfl), by repeat (first | (with_reducible first | exact HB.out | apply below_alloc | apply pw_below_drewN | apply below_drew1 | refine below_set ?_ GE144.out) | exact HB.out)⟩
       ·replace c7 := Bool.eq_false_iff.mpr c7
        subst c7
        have H1 : (some 8) = some r := by rw [if_neg (show ¬ (false = true) by decide)] at H; exact H
        clear H
        have H := H1
        clear H1
        obtain rfl := Option.some.inj H
        have p143 : 0 ≤ (x10_1 : Int) := of_decide_eq_true q2_
        have q143 : x10_1 < (l0.length : Int) := of_decide_eq_true q2_
        obtain ⟨ad143, e143, hx143_0, hx143_1, hx143_2⟩ := at_T40 HR0.out x10_1 p143 q143
        cases e143
        replace hx143_0 := (HB.out.cell (World.block_lt_of_cell? w _ hx143_0)).trans hx143_0
        replace hx143_1 := (HB.out.cell (World.block_lt_of_cell? w _ hx143_1)).trans hx143_1
        replace hx143_2 := (HB.out.cell (World.block_lt_of_cell? w _ hx143_2)).trans hx143_2
        replace p143 := eq_true p143
        replace q143 := eq_true q143
        go_wp2_with (first | ((with_reducible refine gate_dst (N := 4) rfl ?_); refine box_event ?hg (N := 4) ?hd (cs := #[.string (⟨#[]⟩ : ByteArray), .int .i64 0, .int .u64 0]) (t := 40) ?hr ?_; (case hd => rfl); (case hg => rfl); (case hr => first | (go_simp; done) | (go_simp; rfl)); intro gb144 hg w23 hbox hb; have n0_ := Aside0.mk (below_step q0_ hb); have n1_ := Aside0.mk (hbox); have n2_ := Aside0.mk ((by rw [hg]; exact (below_size q0_) : w.heap.size ≤ gb144)); have n3_ := Aside0.mk ((by rw [hg]; exact (below_size q0_) : w.heap.size ≤ gb144)); clear HB; have HB := n0_; have BK144 := n1_; have GW144 := n2_; have GE144 := n3_; clear n0_ n1_ n2_ n3_; clear hb hbox hg; have hcz24_0 : w23.cell? ⟨gb144, 0, none⟩ = some (.string (⟨#[]⟩ : ByteArray)) := (blk_cell BK144.out 0).trans rfl; have hcz24_1 : w23.cell? ⟨gb144, 1, none⟩ = some (.int .i64 0) := (blk_cell BK144.out 1).trans rfl; have hcz24_2 : w23.cell? ⟨gb144, 2, none⟩ = some (.int .u64 0) := (blk_cell BK144.out 2).trans rfl; have hfz24_0 := blk_frozen BK144.out 0; have hfz24_1 := blk_frozen BK144.out 1; have hfz24_2 := blk_frozen BK144.out 2) | (go_at_call 61; (with_reducible refine (term_variable.calls k1 ((rd_T40 l0 x10_1).f0) false _ A6.out).mono ?_); rintro e w' ⟨rfl, ⟨nd, rfl⟩⟩; (try first | exact ⟨rfl, _, World.drewN_drewN _ _ _⟩ | exact ⟨rfl, _, Eq.trans (World.drewN_drewN _ _ _) (congrArg (World.drewN _) (Nat.add_assoc _ _ _))⟩)))
        repeat (go_quiet (first | ((with_reducible refine gate_dst (N := 4) rfl ?_); refine box_event ?hg (N := 4) ?hd (cs := #[.string (⟨#[]⟩ : ByteArray), .int .i64 0, .int .u64 0]) (t := 40) ?hr ?_; (case hd => rfl); (case hg => rfl); (case hr => first | (go_simp; done) | (go_simp; rfl)); intro gb144 hg w23 hbox hb; have n0_ := Aside0.mk (below_step q0_ hb); have n1_ := Aside0.mk (hbox); have n2_ := Aside0.mk ((by rw [hg]; exact (below_size q0_) : w.heap.size ≤ gb144)); have n3_ := Aside0.mk ((by rw [hg]; exact (below_size q0_) : w.heap.size ≤ gb144)); clear HB; have HB := n0_; have BK144 := n1_; have GW144 := n2_; have GE144 := n3_; clear n0_ n1_ n2_ n3_; clear hb hbox hg; have hcz24_0 : w23.cell? ⟨gb144, 0, none⟩ = some (.string (⟨#[]⟩ : ByteArray)) := (blk_cell BK144.out 0).trans rfl; have hcz24_1 : w23.cell? ⟨gb144, 1, none⟩ = some (.int .i64 0) := (blk_cell BK144.out 1).trans rfl; have hcz24_2 : w23.cell? ⟨gb144, 2, none⟩ = some (.int .u64 0) := (blk_cell BK144.out 2).trans rfl; have hfz24_0 := blk_frozen BK144.out 0; have hfz24_1 := blk_frozen BK144.out 1; have hfz24_2 := blk_frozen BK144.out 2) | (go_at_call 61; (with_reducible refine (term_variable.calls k1 ((rd_T40 l0 x10_1).f0) false _ A6.out).mono ?_); rintro e w' ⟨rfl, ⟨nd, rfl⟩⟩; (try first | exact ⟨rfl, _, World.drewN_drewN _ _ _⟩ | exact ⟨rfl, _, Eq.trans (World.drewN_drewN _ _ _) (congrArg (World.drewN _) (Nat.add_assoc _ _ _))⟩))); try go_wp2_with (first | ((with_reducible refine gate_dst (N := 4) rfl ?_); refine box_event ?hg (N := 4) ?hd (cs := #[.string (⟨#[]⟩ : ByteArray), .int .i64 0, .int .u64 0]) (t := 40) ?hr ?_; (case hd => rfl); (case hg => rfl); (case hr => first | (go_simp; done) | (go_simp; rfl)); intro gb144 hg w23 hbox hb; have n0_ := Aside0.mk (below_step q0_ hb); have n1_ := Aside0.mk (hbox); have n2_ := Aside0.mk ((by rw [hg]; exact (below_size q0_) : w.heap.size ≤ gb144)); have n3_ := Aside0.mk ((by rw [hg]; exact (below_size q0_) : w.heap.size ≤ gb144)); clear HB; have HB := n0_; have BK144 := n1_; have GW144 := n2_; have GE144 := n3_; clear n0_ n1_ n2_ n3_; clear hb hbox hg; have hcz24_0 : w23.cell? ⟨gb144, 0, none⟩ = some (.string (⟨#[]⟩ : ByteArray)) := (blk_cell BK144.out 0).trans rfl; have hcz24_1 : w23.cell? ⟨gb144, 1, none⟩ = some (.int .i64 0) := (blk_cell BK144.out 1).trans rfl; have hcz24_2 : w23.cell? ⟨gb144, 2, none⟩ = some (.int .u64 0) := (blk_cell BK144.out 2).trans rfl; have hfz24_0 := blk_frozen BK144.out 0; have hfz24_1 := blk_frozen BK144.out 1; have hfz24_2 := blk_frozen BK144.out 2) | (go_at_call 61; (with_reducible refine (term_variable.calls k1 ((rd_T40 l0 x10_1).f0) false _ A6.out).mono ?_); rintro e w' ⟨rfl, ⟨nd, rfl⟩⟩; (try first | exact ⟨rfl, _, World.drewN_drewN _ _ _⟩ | exact ⟨rfl, _, Eq.trans (World.drewN_drewN _ _ _) (congrArg (World.drewN _) (Nat.add_assoc _ _ _))⟩))))
        go_ret
        exact ⟨by first | rfl | (simp [errW_none, errW_some] <;> rfl) | (simp [*, errW_none, errW_some] <;> rfl), by repeat (first | (with_reducible first | exact HB.out | apply below_alloc | apply pw_below_drewN | apply below_drew1 | refine below_set ?_ GE144.out) | exact HB.out)⟩
      ·rw [if_neg c5] at H
       exact absurd H (by simp)
     ·rw [if_neg c4] at H
      exact absurd H (by simp)
    ·rw [if_neg c3] at H
     have c3b0 : decide (x10_1 < (l0.length : Int)) = false := decide_eq_false c3
     clear c3
     obtain rfl := Option.some.inj H
     go_wp2
     repeat (go_quiet (fail); try go_wp2)
     go_ret
     exact ⟨by first | rfl | (simp [errW_none, errW_some] <;> rfl) | (simp [*, errW_none, errW_some] <;> rfl), by repeat (first | (with_reducible first | exact HB.out | apply below_alloc | apply pw_below_drewN | apply below_drew1) | exact HB.out)⟩

-- NOT PRINTED: function 87 (bytealg_abigen_runtime_cmpstring)

-- NOT PRINTED: function 57 (bytealg_CompareString)

-- function 32 (strings_Compare): by hand, in YtjopdafckhkmmaaDoorHBSCompare

/-! ### blast_Inputs_1: function 40 -/
def blast_Inputs_1.f (a0_0 : ByteArray) (a0_1 : Int) (a0_2 : Int) (a1 : ByteArray) : Option (Int) := (strings_Compare.f a0_0 a1).bind fun t149 => (some t149)
set_option maxHeartbeats 8000000 in
set_option maxRecDepth 100000 in
theorem blast_Inputs_1.calls (a0_0 : ByteArray) (a0_1 : Int) (a0_2 : Int) (a1 : ByteArray) (r : Int) (w : World) (h : blast_Inputs_1.f a0_0 a0_1 a0_2 a1 = some r) :
  Calls Tryd.prog 40 #[.agg #[.string a0_0, .int .i64 a0_1, .int .u64 a0_2], .string a1] w fun e w' => e = .returned (.int .i64 r) ∧ Below w.heap.size w w' := by
 have hu40 := Tryd.underlying40
 have HB := Aside0.mk (Below.refl w.heap.size w)
 have H : ((strings_Compare.f a0_0 a1).bind fun t149 => (some t149)) = some r := h
 clear h
 replace H := Option.bind_eq_some_iff.mp H
 obtain ⟨t149, A30, H⟩ := H
 replace H : (some t149) = some r := H
 have A3 := Aside0.mk A30
 clear A30
 obtain rfl := Option.some.inj H
 go_enter Tryd.func40, Tryd.ntmps40
 go_wp2_with (first | ((with_reducible refine gate_dst (N := 2) rfl ?_); refine box_event ?hg (N := 2) ?hd (cs := #[.string a0_0, .int .i64 a0_1, .int .u64 a0_2]) (t := 40) ?hr ?_; (case hd => rfl); (case hg => rfl); (case hr => first | (go_simp; done) | (go_simp; rfl)); intro gb148 hg w4 hbox hb; have n0_ := Aside0.mk (below_step q0_ hb); have n1_ := Aside0.mk (hbox); have n2_ := Aside0.mk ((by rw [hg]; exact (below_size q0_) : w.heap.size ≤ gb148)); have n3_ := Aside0.mk ((by rw [hg]; exact (below_size q0_) : w.heap.size ≤ gb148)); clear HB; have HB := n0_; have BK148 := n1_; have GW148 := n2_; have GE148 := n3_; clear n0_ n1_ n2_ n3_; clear hb hbox hg; have hcz5_0 : w4.cell? ⟨gb148, 0, none⟩ = some (.string a0_0) := (blk_cell BK148.out 0).trans rfl; have hcz5_1 : w4.cell? ⟨gb148, 1, none⟩ = some (.int .i64 a0_1) := (blk_cell BK148.out 1).trans rfl; have hcz5_2 : w4.cell? ⟨gb148, 2, none⟩ = some (.int .u64 a0_2) := (blk_cell BK148.out 2).trans rfl; have hfz5_0 := blk_frozen BK148.out 0; have hfz5_1 := blk_frozen BK148.out 1; have hfz5_2 := blk_frozen BK148.out 2) | ((with_reducible refine gate_callee (f := 32) rfl ?_); refine goesL_ (some 8) rfl rfl Tryd.func32 q28_ rfl #[.string a0_0, .string a1] rfl q6_ ?_; (with_reducible refine (strings_Compare.calls a0_0 a1 t149 _ A3.out).mono ?_); rintro e w' ⟨rfl, ⟨nd, rfl⟩⟩; refine ⟨_, rfl, ?_⟩))
 go_ret
 exact ⟨by first | rfl | (simp [errW_none, errW_some] <;> rfl) | (simp [*, errW_none, errW_some] <;> rfl), by repeat (first | (with_reducible first | exact HB.out | apply below_alloc | apply pw_below_drewN | apply below_drew1 | refine below_set ?_ GE148.out) | exact HB.out)⟩

/-! ### api_Binding_string: function 39 -/
def api_Binding_string.l0 : Nat → List (S40) → ByteArray → Int → Int → Int → Option (Int × Bool)
 | 0, _, _, _, _, _ => none
 | k + 1, x0, x1, x8, x9, x10 => if x9 < x10 then (if 0 ≤ (wrap64 ((IntKind.u64.wrap (wrap64 (x9 + x10))) / 2)) then (if (wrap64 ((IntKind.u64.wrap (wrap64 (x9 + x10))) / 2)) < (x0.length : Int) then ((blast_Inputs_1.f ((rd_T40 x0 (wrap64 ((IntKind.u64.wrap (wrap64 (x9 + x10))) / 2))).f0) ((rd_T40 x0 (wrap64 ((IntKind.u64.wrap (wrap64 (x9 + x10))) / 2))).f1) ((rd_T40 x0 (wrap64 ((IntKind.u64.wrap (wrap64 (x9 + x10))) / 2))).f2) x1).bind fun t151 => (if t151 < 0 then (api_Binding_string.l0 k x0 x1 x8 (wrap64 ((wrap64 ((IntKind.u64.wrap (wrap64 (x9 + x10))) / 2)) + 1)) x10) else (api_Binding_string.l0 k x0 x1 x8 x9 (wrap64 ((IntKind.u64.wrap (wrap64 (x9 + x10))) / 2))))) else (none)) else (none)) else (if x9 < x8 then (if 0 ≤ x9 then (if x9 < (x0.length : Int) then ((blast_Inputs_1.f ((rd_T40 x0 x9).f0) ((rd_T40 x0 x9).f1) ((rd_T40 x0 x9).f2) x1).bind fun t153 => (some (x9, (t153 == 0)))) else (none)) else (none)) else (some (x9, false)))
def api_Binding_string.f (k : Nat) (l0 : List (S40)) (a1 : ByteArray)  : Option (Int × Bool) := api_Binding_string.l0 k l0 a1 (l0.length : Int) 0 (l0.length : Int)
theorem api_Binding_string.mono_l : ∀ k, (∀ y0 y1 y2 y3 y4, LeO (api_Binding_string.l0 k y0 y1 y2 y3 y4) (api_Binding_string.l0 (k + 1) y0 y1 y2 y3 y4))
 | 0 => fun _ _ _ _ _ r h => by simp [api_Binding_string.l0] at h
 | k + 1 => by
  have ih0 := api_Binding_string.mono_l k
  ·intro y0 y1 y2 y3 y4
   unfold api_Binding_string.l0
   repeat' first
   | (with_reducible exact ih0 _ _ _ _ _)
   | (with_reducible exact LeO.refl _)
   | (with_reducible exact LeO.none _)
   | (with_reducible refine LeO.ite ?_ ?_)
   | (with_reducible refine LeO.bind ?_ (fun _ => ?_))
   | exact ih0 _ _ _ _ _
   | exact LeO.none _
   | refine LeO.ite ?_ ?_
   | refine LeO.bind ?_ (fun _ => ?_)
theorem api_Binding_string.mono : ∀ a0 a1 k, LeO (api_Binding_string.f k a0 a1) (api_Binding_string.f (k + 1) a0 a1) := by
 intro a0 a1 k
 have ih0 := api_Binding_string.mono_l k
 unfold api_Binding_string.f
 repeat' first
   | (with_reducible exact ih0 _ _ _ _ _)
   | (with_reducible exact LeO.refl _)
   | (with_reducible exact LeO.none _)
   | (with_reducible refine LeO.ite ?_ ?_)
   | (with_reducible refine LeO.bind ?_ (fun _ => ?_))
   | exact ih0 _ _ _ _ _
   | exact LeO.none _
   | refine LeO.ite ?_ ?_
   | refine LeO.bind ?_ (fun _ => ?_)
set_option maxHeartbeats 8000000 in
set_option maxRecDepth 100000 in
theorem api_Binding_string.calls (k : Nat) (A0 : Option Addr) (c0 : Nat) (l0 : List (S40)) (a1 : ByteArray)  (r1 : Int) (r2 : Bool) (w : World) (hr0 : Kd.C k40 w A0 l0.length l0) (hc0 : l0.length ≤ c0) (h : api_Binding_string.f k l0 a1 = some (r1, r2)) :
  Calls Tryd.prog 39 #[.slice A0 l0.length c0, .string a1, .func (.func 40) #[] #[]] w fun e w' => e = .returned (.tuple #[.int .i64 r1, .bool r2]) ∧ Below w.heap.size w w' := by
 have hu40 := Tryd.underlying40
 have HR0 := Aside0.mk hr0
 have HC0 := Aside0.mk hc0
 clear hr0 hc0
 have HB := Aside0.mk (Below.refl w.heap.size w)
 have H : (api_Binding_string.l0 k l0 a1 (l0.length : Int) 0 (l0.length : Int)) = some (r1, r2) := h
 clear h
 have H' := Aside0.mk H
 clear H
 go_enter Tryd.func39, Tryd.ntmps39
 go_wp2
 go_loopg [9, 10] k (fun kq v9 v10 w' => ∃ (x9_1 : Int) (x10_1 : Int), v9 = .int .i64 x9_1 ∧ v10 = .int .i64 x10_1 ∧ Aside0 (api_Binding_string.l0 kq l0 a1 (l0.length : Int) x9_1 x10_1 = some (r1, r2)) ∧ Aside0 (kq ≤ k) ∧ Aside0 (Below w.heap.size w w'))
 case atStart => exact ⟨(0), ((l0.length : Int)), q10_, q10_, H', ⟨Nat.le_refl _⟩, ⟨by repeat (first | (with_reducible first | exact HB.out | apply below_alloc | apply pw_below_drewN | apply below_drew1) | exact HB.out)⟩⟩
 case round =>
  clear H'
  try clear p2
  try clear c3
  obtain ⟨x9_1, x10_1, rfl, rfl, HA, HK1, HB⟩ := hrel
  cases gk with
  | zero => exact absurd HA.out (by simp [api_Binding_string.l0])
  | succ k1 =>
   have H := HA.out
   clear HA
   simp only [api_Binding_string.l0] at H
   by_cases c4 : x9_1 < x10_1
   ·rw [if_pos c4] at H
    have c4b0 : decide (x9_1 < x10_1) = true := decide_eq_true c4
    clear c4
    obtain ⟨ji5, hji5⟩ : ∃ j_ : Int, (wrap64 ((IntKind.u64.wrap (wrap64 (x9_1 + x10_1))) / 2)) = j_ := ⟨_, rfl⟩
    replace H : (if 0 ≤ (ji5) then (if (ji5) < (l0.length : Int) then ((blast_Inputs_1.f ((rd_T40 l0 (ji5)).f0) ((rd_T40 l0 (ji5)).f1) ((rd_T40 l0 (ji5)).f2) a1).bind fun t151 => (if t151 < 0 then (api_Binding_string.l0 k1 l0 a1 (l0.length : Int) (wrap64 ((ji5) + 1)) x10_1) else (api_Binding_string.l0 k1 l0 a1 (l0.length : Int) x9_1 ji5))) else (none)) else (none)) = some (r1, r2) := by first | (rw [hji5] at H; exact H) | (simp only [hji5] at H ⊢; exact H)
    have hji5w : (IntKind.i64.wrap ((IntKind.u64.wrap (wrap64 (x9_1 + x10_1))) / 2)) = ji5 := (i64_w _).trans hji5
    by_cases c6 : 0 ≤ (ji5)
    ·rw [if_pos c6] at H
     have c6b0 : decide (0 ≤ (ji5)) = true := decide_eq_true c6
     clear c6
     by_cases c7 : (ji5) < (l0.length : Int)
     ·rw [if_pos c7] at H
      have c7b0 : decide ((ji5) < (l0.length : Int)) = true := decide_eq_true c7
      clear c7
      replace H := Option.bind_eq_some_iff.mp H
      obtain ⟨t151, A80, H⟩ := H
      replace H : (if t151 < 0 then (api_Binding_string.l0 k1 l0 a1 (l0.length : Int) (wrap64 ((ji5) + 1)) x10_1) else (api_Binding_string.l0 k1 l0 a1 (l0.length : Int) x9_1 ji5)) = some (r1, r2) := H
      have A8 := Aside0.mk A80
      clear A80
      by_cases c9 : t151 < 0
      ·rw [if_pos c9] at H
       have c9b0 : decide (t151 < 0) = true := decide_eq_true c9
       clear c9
       have H' := Aside0.mk H
       clear H
       have p150 : 0 ≤ ((ji5) : Int) := of_decide_eq_true q2_
       have q150 : (ji5) < (l0.length : Int) := of_decide_eq_true q2_
       obtain ⟨ad150, e150, hx150_0, hx150_1, hx150_2⟩ := at_T40 HR0.out (ji5) p150 q150
       cases e150
       replace hx150_0 := (HB.out.cell (World.block_lt_of_cell? w _ hx150_0)).trans hx150_0
       replace hx150_1 := (HB.out.cell (World.block_lt_of_cell? w _ hx150_1)).trans hx150_1
       replace hx150_2 := (HB.out.cell (World.block_lt_of_cell? w _ hx150_2)).trans hx150_2
       replace p150 := eq_true p150
       replace q150 := eq_true q150
       go_wp2_with (first | ((first | (go_at_call 40) | ((with_reducible refine gate_callee (f := 40) rfl ?_); refine goesL_ (some 30) rfl rfl Tryd.func40 q28_ rfl #[.agg #[.string ((rd_T40 l0 (ji5)).f0), .int .i64 ((rd_T40 l0 (ji5)).f1), .int .u64 ((rd_T40 l0 (ji5)).f2)], .string a1] rfl (by (try simp only [List.map_toArray, List.map_cons, List.map_nil]); first | done | (simp only [hji5]; rfl) | rfl | (simp only [List.length_drop, List.length_take]; rfl)) ?_)); (with_reducible refine (blast_Inputs_1.calls ((rd_T40 l0 (ji5)).f0) ((rd_T40 l0 (ji5)).f1) ((rd_T40 l0 (ji5)).f2) a1 t151 _ A8.out).mono ?_); rintro e w10 ⟨rfl, hb⟩; (try refine ⟨_, rfl, ?_⟩); have n0_ := Aside0.mk (below_step q0_ hb); clear HB; have HB := n0_; clear n0_; (try clear hb); (try clear hb2); (try clear hk); (try clear hi)))
       go_roundg k1
       case measure => have := HK1.out; omega
       case rel => exact ⟨(wrap64 ((ji5) + 1)), (x10_1), (by first | rfl | (simp; done) | (simp only [← hji5] <;> (first | rfl | simp)) | (simp [*]; done)), q10_, H', ⟨by have := HK1.out; omega⟩, ⟨by repeat (first | (with_reducible first | exact HB.out | apply below_alloc | apply pw_below_drewN | apply below_drew1) | exact HB.out)⟩⟩
      ·rw [if_neg c9] at H
       have c9b0 : decide (t151 < 0) = false := decide_eq_false c9
       clear c9
       have H' := Aside0.mk H
       clear H
       have p150 : 0 ≤ ((ji5) : Int) := of_decide_eq_true q2_
       have q150 : (ji5) < (l0.length : Int) := of_decide_eq_true q2_
       obtain ⟨ad150, e150, hx150_0, hx150_1, hx150_2⟩ := at_T40 HR0.out (ji5) p150 q150
       cases e150
       replace hx150_0 := (HB.out.cell (World.block_lt_of_cell? w _ hx150_0)).trans hx150_0
       replace hx150_1 := (HB.out.cell (World.block_lt_of_cell? w _ hx150_1)).trans hx150_1
       replace hx150_2 := (HB.out.cell (World.block_lt_of_cell? w _ hx150_2)).trans hx150_2
       replace p150 := eq_true p150
       replace q150 := eq_true q150
       go_wp2_with (first | ((first | (go_at_call 40) | ((with_reducible refine gate_callee (f := 40) rfl ?_); refine goesL_ (some 30) rfl rfl Tryd.func40 q28_ rfl #[.agg #[.string ((rd_T40 l0 (ji5)).f0), .int .i64 ((rd_T40 l0 (ji5)).f1), .int .u64 ((rd_T40 l0 (ji5)).f2)], .string a1] rfl (by (try simp only [List.map_toArray, List.map_cons, List.map_nil]); first | done | (simp only [hji5]; rfl) | rfl | (simp only [List.length_drop, List.length_take]; rfl)) ?_)); (with_reducible refine (blast_Inputs_1.calls ((rd_T40 l0 (ji5)).f0) ((rd_T40 l0 (ji5)).f1) ((rd_T40 l0 (ji5)).f2) a1 t151 _ A8.out).mono ?_); rintro e w11 ⟨rfl, hb⟩; (try refine ⟨_, rfl, ?_⟩); have n0_ := Aside0.mk (below_step q0_ hb); clear HB; have HB := n0_; clear n0_; (try clear hb); (try clear hb2); (try clear hk); (try clear hi)))
       go_roundg k1
       case measure => have := HK1.out; omega
       case rel => exact ⟨(x9_1), (ji5), q10_, (by first | rfl | (simp; done) | (simp only [← hji5] <;> (first | rfl | simp)) | (simp [*]; done)), H', ⟨by have := HK1.out; omega⟩, ⟨by repeat (first | (with_reducible first | exact HB.out | apply below_alloc | apply pw_below_drewN | apply below_drew1) | exact HB.out)⟩⟩
     ·rw [if_neg c7] at H
      exact absurd H (by simp)
    ·rw [if_neg c6] at H
     exact absurd H (by simp)
   ·rw [if_neg c4] at H
    have c4b0 : decide (x9_1 < x10_1) = false := decide_eq_false c4
    clear c4
    by_cases c12 : x9_1 < (l0.length : Int)
    ·rw [if_pos c12] at H
     have c12b0 : decide (x9_1 < (l0.length : Int)) = true := decide_eq_true c12
     clear c12
     by_cases c13 : 0 ≤ x9_1
     ·rw [if_pos c13] at H
      have c13b0 : decide (0 ≤ x9_1) = true := decide_eq_true c13
      clear c13
      by_cases c14 : x9_1 < (l0.length : Int)
      ·rw [if_pos c14] at H
       have c14b0 : decide (x9_1 < (l0.length : Int)) = true := decide_eq_true c14
       clear c14
       replace H := Option.bind_eq_some_iff.mp H
       obtain ⟨t153, A150, H⟩ := H
       replace H : (some (x9_1, (t153 == 0))) = some (r1, r2) := H
       have A15 := Aside0.mk A150
       clear A150
       simp only [Option.some.injEq, Prod.mk.injEq] at H
       obtain ⟨rfl, rfl⟩ := H
       have p152 : 0 ≤ (x9_1 : Int) := of_decide_eq_true q2_
       have q152 : x9_1 < (l0.length : Int) := of_decide_eq_true q2_
       obtain ⟨ad152, e152, hx152_0, hx152_1, hx152_2⟩ := at_T40 HR0.out x9_1 p152 q152
       cases e152
       replace hx152_0 := (HB.out.cell (World.block_lt_of_cell? w _ hx152_0)).trans hx152_0
       replace hx152_1 := (HB.out.cell (World.block_lt_of_cell? w _ hx152_1)).trans hx152_1
       replace hx152_2 := (HB.out.cell (World.block_lt_of_cell? w _ hx152_2)).trans hx152_2
       replace p152 := eq_true p152
       replace q152 := eq_true q152
       go_wp2_with (first | (go_at_call 40; (with_reducible refine (blast_Inputs_1.calls ((rd_T40 l0 x9_1).f0) ((rd_T40 l0 x9_1).f1) ((rd_T40 l0 x9_1).f2) a1 t153 _ A15.out).mono ?_); rintro e w16 ⟨rfl, hb⟩; have n0_ := Aside0.mk (below_step q0_ hb); clear HB; have HB := n0_; clear n0_; (try clear hb); (try clear hb2); (try clear hk); (try clear hi)))
       go_ret2
       exact ⟨by first | rfl | (simp [errW_none, errW_some] <;> rfl) | (simp [*, errW_none, errW_some] <;> rfl), by repeat (first | (with_reducible first | exact HB.out | apply below_alloc | apply pw_below_drewN | apply below_drew1) | exact HB.out)⟩
      ·rw [if_neg c14] at H
       exact absurd H (by simp)
     ·rw [if_neg c13] at H
      exact absurd H (by simp)
    ·rw [if_neg c12] at H
     have c12b0 : decide (x9_1 < (l0.length : Int)) = false := decide_eq_false c12
     clear c12
     simp only [Option.some.injEq, Prod.mk.injEq] at H
     obtain ⟨rfl, rfl⟩ := H
     go_wp2
     go_ret2
     exact ⟨by first | rfl | (simp [errW_none, errW_some] <;> rfl) | (simp [*, errW_none, errW_some] <;> rfl), by repeat (first | (with_reducible first | exact HB.out | apply below_alloc | apply pw_below_drewN | apply below_drew1) | exact HB.out)⟩

end Go.Proofs.YtjopdafckhkmmaaDoor.MBS
