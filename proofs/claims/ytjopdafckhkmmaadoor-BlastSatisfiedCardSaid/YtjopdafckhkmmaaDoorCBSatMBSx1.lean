/- Functions of the program as Lean functions, and of each a proof that the Go code comes to just its answers. Laid for this claim by wip/drive.py of this repo (our driver over the kit's printing program); no text of print.sh. No condition. -/
import Derived.Test.YtjopdafckhkmmaaDoorCBSatMBSx0
namespace Go.Proofs.YtjopdafckhkmmaaDoor.MBS
open Go.Proofs.YtjopdafckhkmmaaDoor.Zed Go.RowKit Go.Proofs.YtjopdafckhkmmaaDoorW.PrintWords Go.Proofs.YtjopdafckhkmmaaDoorW.PrintLast Go.Proofs.YtjopdafckhkmmaaDoorW.PrintMore
attribute [local go_sem] max2_int min2_int max_two min_two max_three min_three max_four min_four   -- for this text's walks alone
set_option linter.unusedVariables false
set_option linter.unusedSimpArgs false

-- NOT PRINTED: function 33 (term_nodes)

-- NOT PRINTED: function 29 (term_variables)

-- NOT PRINTED: function 52 (term_Size)

/-! ### term_Depth: function 53 -/
mutual
def term_Depth.l0 : Nat → Int → List (S25) → Int → Int → Option (Int)
 | 0, _, _, _, _ => none
 | k + 1, x3, x7, x8, x9 => if x9 < x8 then (if 0 ≤ x9 then (if x9 < (x7.length : Int) then ((term_Depth.f k ((rd_T25 x7 x9).f0) ((rd_T25 x7 x9).f1) ((rd_T25 x7 x9).f2) ((rd_T25 x7 x9).f3) ((rd_T25 x7 x9).f4) ((rd_T25 x7 x9).f5)).bind fun t105 => (term_Depth.l0 k (mx x3 t105) x7 x8 (wrap64 (x9 + 1)))) else (none)) else (none)) else (some (wrap64 (x3 + 1)))
def term_Depth.f : Nat → Int → Int → Int → ByteArray → Int → List (S25) → Option (Int)
 | 0, _, _, _, _, _, _ => none
 | k + 1, a0_0, a0_1, a0_2, a0_3, a0_4, l0_5 => term_Depth.l0 k 0 l0_5 (l0_5.length : Int) 0
end
theorem term_Depth.mono_l : ∀ k, (∀ y0 y1 y2 y3 y4 y5, LeO (term_Depth.f k y0 y1 y2 y3 y4 y5) (term_Depth.f (k + 1) y0 y1 y2 y3 y4 y5)) ∧ (∀ y0 y1 y2 y3, LeO (term_Depth.l0 k y0 y1 y2 y3) (term_Depth.l0 (k + 1) y0 y1 y2 y3))
 | 0 => ⟨fun _ _ _ _ _ _ r h => by simp [term_Depth.f] at h, fun _ _ _ _ r h => by simp [term_Depth.l0] at h⟩
 | k + 1 => by
  obtain ⟨ih0, ih1⟩ := term_Depth.mono_l k
  refine ⟨?_, ?_⟩
  ·intro y0 y1 y2 y3 y4 y5
   unfold term_Depth.f
   repeat' first
   | (with_reducible exact ih0 _ _ _ _ _ _)
   | (with_reducible exact ih1 _ _ _ _)
   | (with_reducible exact LeO.refl _)
   | (with_reducible exact LeO.none _)
   | (with_reducible refine LeO.ite ?_ ?_)
   | (with_reducible refine LeO.bind ?_ (fun _ => ?_))
   | exact ih0 _ _ _ _ _ _
   | exact ih1 _ _ _ _
   | exact LeO.none _
   | refine LeO.ite ?_ ?_
   | refine LeO.bind ?_ (fun _ => ?_)
  ·intro y0 y1 y2 y3
   unfold term_Depth.l0
   repeat' first
   | (with_reducible exact ih0 _ _ _ _ _ _)
   | (with_reducible exact ih1 _ _ _ _)
   | (with_reducible exact LeO.refl _)
   | (with_reducible exact LeO.none _)
   | (with_reducible refine LeO.ite ?_ ?_)
   | (with_reducible refine LeO.bind ?_ (fun _ => ?_))
   | exact ih0 _ _ _ _ _ _
   | exact ih1 _ _ _ _
   | exact LeO.none _
   | refine LeO.ite ?_ ?_
   | refine LeO.bind ?_ (fun _ => ?_)
theorem term_Depth.mono : ∀ a0 a1 a2 a3 a4 a5 k, LeO (term_Depth.f k a0 a1 a2 a3 a4 a5) (term_Depth.f (k + 1) a0 a1 a2 a3 a4 a5) := by
 intro a0 a1 a2 a3 a4 a5 k
 obtain ⟨ih0, ih1⟩ := term_Depth.mono_l k
 exact ih0 a0 a1 a2 a3 a4 a5
set_option maxHeartbeats 8000000 in
set_option maxRecDepth 100000 in
theorem term_Depth.calls (k : Nat) : ∀ (a0_0 : Int) (a0_1 : Int) (a0_2 : Int) (a0_3 : ByteArray) (a0_4 : Int) (A0_5 : Option Addr) (c0_5 : Nat) (l0_5 : List (S25)) (r : Int) (w : World) (hr0_5 : Kd.C k25 w A0_5 l0_5.length l0_5) (hc0_5 : l0_5.length ≤ c0_5) (h : term_Depth.f k a0_0 a0_1 a0_2 a0_3 a0_4 l0_5 = some r),
  Calls Tryd.prog 53 #[.agg #[.int .u8 a0_0, .int .i64 a0_1, .int .u64 a0_2, .string a0_3, .int .i64 a0_4, .slice A0_5 l0_5.length c0_5]] w fun e w' => e = .returned (.int .i64 r) ∧ Below w.heap.size w w' := by
 induction k using Nat.strongRecOn with
 | _ k ih =>
 intro a0_0 a0_1 a0_2 a0_3 a0_4 A0_5 c0_5 l0_5 r w hr0_5 hc0_5 h
 cases k with
 | zero => exact absurd h (by simp [term_Depth.f])
 | succ k =>
 simp only [term_Depth.f] at h
 have hu25 := Tryd.underlying25
 have HR0_5 := Aside0.mk hr0_5
 have HC0_5 := Aside0.mk hc0_5
 clear hr0_5 hc0_5
 have HB := Aside0.mk (Below.refl w.heap.size w)
 have H : (term_Depth.l0 k 0 l0_5 (l0_5.length : Int) 0) = some r := h
 clear h
 have H' := Aside0.mk H
 clear H
 go_enter Tryd.func53, Tryd.ntmps53
 go_wp2_with (first | ((with_reducible refine gate_dst (N := 1) rfl ?_); refine box_event ?hg (N := 1) ?hd (cs := #[.int .u8 a0_0, .int .i64 a0_1, .int .u64 a0_2, .string a0_3, .int .i64 a0_4, .slice A0_5 l0_5.length c0_5]) (t := 25) ?hr ?_; (case hd => rfl); (case hg => rfl); (case hr => first | (go_simp; done) | (go_simp; rfl)); intro gb102 hg w2 hbox hb; have n0_ := Aside0.mk (below_step q0_ hb); have n1_ := Aside0.mk (hbox); have n2_ := Aside0.mk ((by rw [hg]; exact (below_size q0_) : w.heap.size ≤ gb102)); have n3_ := Aside0.mk ((by rw [hg]; exact (below_size q0_) : w.heap.size ≤ gb102)); clear HB; have HB := n0_; have BK102 := n1_; have GW102 := n2_; have GE102 := n3_; clear n0_ n1_ n2_ n3_; clear hb hbox hg; have hcz3_0 : w2.cell? ⟨gb102, 0, none⟩ = some (.int .u8 a0_0) := (blk_cell BK102.out 0).trans rfl; have hcz3_1 : w2.cell? ⟨gb102, 1, none⟩ = some (.int .i64 a0_1) := (blk_cell BK102.out 1).trans rfl; have hcz3_2 : w2.cell? ⟨gb102, 2, none⟩ = some (.int .u64 a0_2) := (blk_cell BK102.out 2).trans rfl; have hcz3_3 : w2.cell? ⟨gb102, 3, none⟩ = some (.string a0_3) := (blk_cell BK102.out 3).trans rfl; have hcz3_4 : w2.cell? ⟨gb102, 4, none⟩ = some (.int .i64 a0_4) := (blk_cell BK102.out 4).trans rfl; have hcz3_5 : w2.cell? ⟨gb102, 5, none⟩ = some (.slice A0_5 l0_5.length c0_5) := (blk_cell BK102.out 5).trans rfl; have hfz3_0 := blk_frozen BK102.out 0; have hfz3_1 := blk_frozen BK102.out 1; have hfz3_2 := blk_frozen BK102.out 2; have hfz3_3 := blk_frozen BK102.out 3; have hfz3_4 := blk_frozen BK102.out 4; have hfz3_5 := blk_frozen BK102.out 5))
 go_loopg [3, 9] k (fun kq v3 v9 w' => ∃ (x3_1 : Int) (x9_1 : Int), v3 = .int .i64 x3_1 ∧ v9 = .int .i64 x9_1 ∧ Aside0 (term_Depth.l0 kq x3_1 l0_5 (l0_5.length : Int) x9_1 = some r) ∧ Aside0 (kq ≤ k) ∧ Aside0 (w'.heap[gb102]? = some (.cells #[.int .u8 a0_0, .int .i64 a0_1, .int .u64 a0_2, .string a0_3, .int .i64 a0_4, (.slice A0_5 l0_5.length c0_5)] 25 (0, 0))) ∧ Aside0 (Below w.heap.size w w'))
 case atStart => exact ⟨(0), (0), q10_, q10_, H', ⟨Nat.le_refl _⟩, ⟨by (with_reducible repeat (first | refine blk_drewN ?_ _ | refine blk_drew ?_ | refine blk_alloc ?_ _)); exact BK102.out⟩, ⟨by repeat (first | (with_reducible first | exact HB.out | apply below_alloc | apply pw_below_drewN | apply below_drew1 | refine below_set ?_ GE102.out) | exact HB.out)⟩⟩
 case round =>
  clear H'
  try clear p2
  try clear hcz3_0
  try clear hcz3_1
  try clear hcz3_2
  try clear hcz3_3
  try clear hcz3_4
  try clear hcz3_5
  try clear hfz3_0
  try clear hfz3_1
  try clear hfz3_2
  try clear hfz3_3
  try clear hfz3_4
  try clear hfz3_5
  obtain ⟨x3_1, x9_1, rfl, rfl, HA, HK1, BK102, HB⟩ := hrel
  cases gk with
  | zero => exact absurd HA.out (by simp [term_Depth.l0])
  | succ k1 =>
   have H := HA.out
   clear HA
   simp only [term_Depth.l0] at H
   by_cases c4 : x9_1 < (l0_5.length : Int)
   ·rw [if_pos c4] at H
    have c4b0 : decide (x9_1 < (l0_5.length : Int)) = true := decide_eq_true c4
    clear c4
    by_cases c5 : 0 ≤ x9_1
    ·rw [if_pos c5] at H
     have c5b0 : decide (0 ≤ x9_1) = true := decide_eq_true c5
     clear c5
     by_cases c6 : x9_1 < (l0_5.length : Int)
     ·rw [if_pos c6] at H
      have c6b0 : decide (x9_1 < (l0_5.length : Int)) = true := decide_eq_true c6
      clear c6
      replace H := Option.bind_eq_some_iff.mp H
      obtain ⟨t105, A70, H⟩ := H
      replace H : (term_Depth.l0 k1 (mx x3_1 t105) l0_5 (l0_5.length : Int) (wrap64 (x9_1 + 1))) = some r := H
      have A7 := Aside0.mk A70
      clear A70
      obtain ⟨ji8, hji8⟩ : ∃ j_ : Int, (mx x3_1 t105) = j_ := ⟨_, rfl⟩
      replace H : (term_Depth.l0 k1 ji8 l0_5 (l0_5.length : Int) (wrap64 (x9_1 + 1))) = some r := by first | (rw [hji8] at H; exact H) | (simp only [hji8] at H ⊢; exact H)
      (try rw [hji8] at A7)
      have hji8_ : (if x3_1 < t105 then t105 else x3_1) = ji8 := hji8
      have H' := Aside0.mk H
      clear H
      have p103 : 0 ≤ (x9_1 : Int) := of_decide_eq_true q2_
      have q103 : x9_1 < (l0_5.length : Int) := of_decide_eq_true q2_
      obtain ⟨ad103, A103_5, c103_5, e103, hx103_0, hx103_1, hx103_2, hx103_3, hx103_4, hx103_5, hl103_5, hi103_5⟩ := at_T25 HR0_5.out x9_1 p103 q103
      cases e103
      replace hx103_0 := (HB.out.cell (World.block_lt_of_cell? w _ hx103_0)).trans hx103_0
      replace hx103_1 := (HB.out.cell (World.block_lt_of_cell? w _ hx103_1)).trans hx103_1
      replace hx103_2 := (HB.out.cell (World.block_lt_of_cell? w _ hx103_2)).trans hx103_2
      replace hx103_3 := (HB.out.cell (World.block_lt_of_cell? w _ hx103_3)).trans hx103_3
      replace hx103_4 := (HB.out.cell (World.block_lt_of_cell? w _ hx103_4)).trans hx103_4
      replace hx103_5 := (HB.out.cell (World.block_lt_of_cell? w _ hx103_5)).trans hx103_5
      have HR103_5 := Aside0.mk hi103_5
      have HC103_5 := Aside0.mk hl103_5
      clear hi103_5 hl103_5
      replace p103 := eq_true p103
      replace q103 := eq_true q103
      go_wp2_with (first | ((with_reducible refine gate_dst (N := 5) rfl ?_); refine box_event ?hg (N := 5) ?hd (cs := #[.int .u8 0, .int .i64 0, .int .u64 0, .string (⟨#[]⟩ : ByteArray), .int .i64 0, .slice none 0 0]) (t := 25) ?hr ?_; (case hd => rfl); (case hg => rfl); (case hr => first | (go_simp; done) | (go_simp; rfl)); intro gb104 hg w9 hbox hb; have n0_ := Aside0.mk (blk_below (g := gb102) (o := .cells #[.int .u8 a0_0, .int .i64 a0_1, .int .u64 a0_2, .string a0_3, .int .i64 a0_4, .slice (some ad103) l0_5.length c0_5] 25 (0, 0)) (by (with_reducible repeat (first | refine blk_drewN ?_ _ | refine blk_drew ?_ | refine blk_alloc ?_ _)); exact BK102.out) hb); have n1_ := Aside0.mk (below_step (by repeat (first | (with_reducible first | exact HB.out | apply below_alloc | apply pw_below_drewN | apply below_drew1 | refine below_set ?_ GE102.out) | exact HB.out)) hb); have n2_ := Aside0.mk (hbox); have n3_ := Aside0.mk ((by rw [hg]; exact (below_size (by repeat (first | (with_reducible first | exact HB.out | apply below_alloc | apply pw_below_drewN | apply below_drew1 | refine below_set ?_ GE102.out) | exact HB.out))) : w.heap.size ≤ gb104)); have n4_ := Aside0.mk ((by rw [hg]; exact (below_size (by repeat (first | (with_reducible first | exact HB.out | apply below_alloc | apply pw_below_drewN | apply below_drew1 | refine below_set ?_ GE102.out) | exact HB.out))) : w.heap.size ≤ gb104)); have n5_ := Aside0.mk ((by rw [hg]; exact Nat.ne_of_lt (blk_lt (g := gb102) (o := .cells #[.int .u8 a0_0, .int .i64 a0_1, .int .u64 a0_2, .string a0_3, .int .i64 a0_4, .slice (some ad103) l0_5.length c0_5] 25 (0, 0)) (by (with_reducible repeat (first | refine blk_drewN ?_ _ | refine blk_drew ?_ | refine blk_alloc ?_ _)); exact BK102.out)) : gb102 ≠ gb104)); have n6_ := Aside0.mk ((by rw [hg]; exact Nat.ne_of_gt (blk_lt (g := gb102) (o := .cells #[.int .u8 a0_0, .int .i64 a0_1, .int .u64 a0_2, .string a0_3, .int .i64 a0_4, .slice (some ad103) l0_5.length c0_5] 25 (0, 0)) (by (with_reducible repeat (first | refine blk_drewN ?_ _ | refine blk_drew ?_ | refine blk_alloc ?_ _)); exact BK102.out)) : gb104 ≠ gb102)); clear BK102; clear HB; have BK102 := n0_; have HB := n1_; have BK104 := n2_; have GW104 := n3_; have GE104 := n4_; have NB102_104 := n5_; have NB104_102 := n6_; clear n0_ n1_ n2_ n3_ n4_ n5_ n6_; clear hb hbox hg; have hnb10 := NB104_102.out; have hnc10 := NB102_104.out; have hcz11_0 : w9.cell? ⟨gb104, 0, none⟩ = some (.int .u8 0) := (blk_cell BK104.out 0).trans rfl; have hcz11_1 : w9.cell? ⟨gb104, 1, none⟩ = some (.int .i64 0) := (blk_cell BK104.out 1).trans rfl; have hcz11_2 : w9.cell? ⟨gb104, 2, none⟩ = some (.int .u64 0) := (blk_cell BK104.out 2).trans rfl; have hcz11_3 : w9.cell? ⟨gb104, 3, none⟩ = some (.string (⟨#[]⟩ : ByteArray)) := (blk_cell BK104.out 3).trans rfl; have hcz11_4 : w9.cell? ⟨gb104, 4, none⟩ = some (.int .i64 0) := (blk_cell BK104.out 4).trans rfl; have hcz11_5 : w9.cell? ⟨gb104, 5, none⟩ = some (.slice none 0 0) := (blk_cell BK104.out 5).trans rfl; have hfz11_0 := blk_frozen BK104.out 0; have hfz11_1 := blk_frozen BK104.out 1; have hfz11_2 := blk_frozen BK104.out 2; have hfz11_3 := blk_frozen BK104.out 3; have hfz11_4 := blk_frozen BK104.out 4; have hfz11_5 := blk_frozen BK104.out 5) | ((with_reducible refine gate_callee (f := 53) rfl ?_); refine goesL_ (some 15) rfl rfl Tryd.func53 q28_ rfl #[.agg #[.int .u8 ((rd_T25 l0_5 x9_1).f0), .int .i64 ((rd_T25 l0_5 x9_1).f1), .int .u64 ((rd_T25 l0_5 x9_1).f2), .string ((rd_T25 l0_5 x9_1).f3), .int .i64 ((rd_T25 l0_5 x9_1).f4), .slice A103_5 ((rd_T25 l0_5 x9_1).f5).length c103_5]] rfl q6_ ?_; (with_reducible refine (ih k1 (by have := HK1.out; omega) ((rd_T25 l0_5 x9_1).f0) ((rd_T25 l0_5 x9_1).f1) ((rd_T25 l0_5 x9_1).f2) ((rd_T25 l0_5 x9_1).f3) ((rd_T25 l0_5 x9_1).f4) _ _ ((rd_T25 l0_5 x9_1).f5) t105 _ ?side1 ?side2 A7.out).mono ?_); (case side1 => exact Kd.C_below HR103_5.out (by repeat (first | (with_reducible first | exact HB.out | apply below_alloc | apply pw_below_drewN | apply below_drew1 | refine below_set ?_ GE102.out | refine below_set ?_ GE104.out) | exact HB.out))); (case side2 => exact HC103_5.out); rintro e w12 ⟨rfl, hb⟩; refine ⟨_, rfl, ?_⟩; have n0_ := Aside0.mk (blk_below (g := gb102) (o := .cells #[.int .u8 a0_0, .int .i64 a0_1, .int .u64 a0_2, .string a0_3, .int .i64 a0_4, .slice (some ad103) l0_5.length c0_5] 25 (0, 0)) (by (with_reducible repeat (first | refine blk_drewN ?_ _ | refine blk_drew ?_ | refine blk_alloc ?_ _)); refine blk_far ?_ NB102_104.out _; (with_reducible repeat (first | refine blk_drewN ?_ _ | refine blk_drew ?_ | refine blk_alloc ?_ _)); refine blk_far ?_ NB102_104.out _; (with_reducible repeat (first | refine blk_drewN ?_ _ | refine blk_drew ?_ | refine blk_alloc ?_ _)); refine blk_far ?_ NB102_104.out _; (with_reducible repeat (first | refine blk_drewN ?_ _ | refine blk_drew ?_ | refine blk_alloc ?_ _)); refine blk_far ?_ NB102_104.out _; (with_reducible repeat (first | refine blk_drewN ?_ _ | refine blk_drew ?_ | refine blk_alloc ?_ _)); refine blk_far ?_ NB102_104.out _; (with_reducible repeat (first | refine blk_drewN ?_ _ | refine blk_drew ?_ | refine blk_alloc ?_ _)); refine blk_far ?_ NB102_104.out _; (with_reducible repeat (first | refine blk_drewN ?_ _ | refine blk_drew ?_ | refine blk_alloc ?_ _)); exact BK102.out) hb); have n1_ := Aside0.mk (blk_below (g := gb104) (o := .cells #[.int .u8 ((rd_T25 l0_5 x9_1).f0), .int .i64 ((rd_T25 l0_5 x9_1).f1), .int .u64 ((rd_T25 l0_5 x9_1).f2), .string ((rd_T25 l0_5 x9_1).f3), .int .i64 ((rd_T25 l0_5 x9_1).f4), .slice A103_5 ((rd_T25 l0_5 x9_1).f5).length c103_5] 25 (0, 0)) (by (with_reducible repeat (first | refine blk_drewN ?_ _ | refine blk_drew ?_ | refine blk_alloc ?_ _)); refine blk_put (cs := #[.int .u8 ((rd_T25 l0_5 x9_1).f0), .int .i64 ((rd_T25 l0_5 x9_1).f1), .int .u64 ((rd_T25 l0_5 x9_1).f2), .string ((rd_T25 l0_5 x9_1).f3), .int .i64 ((rd_T25 l0_5 x9_1).f4), .slice none 0 0]) ?_ 5 _ rfl; (with_reducible repeat (first | refine blk_drewN ?_ _ | refine blk_drew ?_ | refine blk_alloc ?_ _)); refine blk_put (cs := #[.int .u8 ((rd_T25 l0_5 x9_1).f0), .int .i64 ((rd_T25 l0_5 x9_1).f1), .int .u64 ((rd_T25 l0_5 x9_1).f2), .string ((rd_T25 l0_5 x9_1).f3), .int .i64 0, .slice none 0 0]) ?_ 4 _ rfl; (with_reducible repeat (first | refine blk_drewN ?_ _ | refine blk_drew ?_ | refine blk_alloc ?_ _)); refine blk_put (cs := #[.int .u8 ((rd_T25 l0_5 x9_1).f0), .int .i64 ((rd_T25 l0_5 x9_1).f1), .int .u64 ((rd_T25 l0_5 x9_1).f2), .string (⟨#[]⟩ : ByteArray), .int .i64 0, .slice none 0 0]) ?_ 3 _ rfl; (with_reducible repeat (first | refine blk_drewN ?_ _ | refine blk_drew ?_ | refine blk_alloc ?_ _)); refine blk_put (cs := #[.int .u8 ((rd_T25 l0_5 x9_1).f0), .int .i64 ((rd_T25 l0_5 x9_1).f1), .int .u64 0, .string (⟨#[]⟩ : ByteArray), .int .i64 0, .slice none 0 0]) ?_ 2 _ rfl; (with_reducible repeat (first | refine blk_drewN ?_ _ | refine blk_drew ?_ | refine blk_alloc ?_ _)); refine blk_put (cs := #[.int .u8 ((rd_T25 l0_5 x9_1).f0), .int .i64 0, .int .u64 0, .string (⟨#[]⟩ : ByteArray), .int .i64 0, .slice none 0 0]) ?_ 1 _ rfl; (with_reducible repeat (first | refine blk_drewN ?_ _ | refine blk_drew ?_ | refine blk_alloc ?_ _)); refine blk_put (cs := #[.int .u8 0, .int .i64 0, .int .u64 0, .string (⟨#[]⟩ : ByteArray), .int .i64 0, .slice none 0 0]) ?_ 0 _ rfl; (with_reducible repeat (first | refine blk_drewN ?_ _ | refine blk_drew ?_ | refine blk_alloc ?_ _)); exact BK104.out) hb); have n2_ := Aside0.mk (below_step (by repeat (first | (with_reducible first | exact HB.out | apply below_alloc | apply pw_below_drewN | apply below_drew1 | refine below_set ?_ GE102.out | refine below_set ?_ GE104.out) | exact HB.out)) hb); clear BK102; clear BK104; clear HB; have BK102 := n0_; have BK104 := n1_; have HB := n2_; clear n0_ n1_ n2_; (try clear hb); (try clear hb2); (try clear hk); (try clear hi)))
      go_roundg k1
      case measure => have := HK1.out; omega
      case rel => exact ⟨(ji8), (wrap64 (x9_1 + 1)), (by first | rfl | (simp; done) | (simp only [← hji8] <;> (first | rfl | simp)) | (simp [*]; done)), q10_, H', ⟨by have := HK1.out; omega⟩, ⟨by (with_reducible repeat (first | refine blk_drewN ?_ _ | refine blk_drew ?_ | refine blk_alloc ?_ _)); exact BK102.out⟩, ⟨by repeat (first | (with_reducible first | exact HB.out | apply below_alloc | apply pw_below_drewN | apply below_drew1 | refine below_set ?_ GE102.out | refine below_set ?_ GE104.out) | exact HB.out)⟩⟩
     ·rw [if_neg c6] at H
      exact absurd H (by simp)
    ·rw [if_neg c5] at H
     exact absurd H (by simp)
   ·rw [if_neg c4] at H
    have c4b0 : decide (x9_1 < (l0_5.length : Int)) = false := decide_eq_false c4
    clear c4
    obtain rfl := Option.some.inj H
    go_wp2
    go_ret
    exact ⟨by first | rfl | (simp [errW_none, errW_some] <;> rfl) | (simp [*, errW_none, errW_some] <;> rfl), by repeat (first | (with_reducible first | exact HB.out | apply below_alloc | apply pw_below_drewN | apply below_drew1 | refine below_set ?_ GE102.out) | exact HB.out)⟩

/-! ### bits_Name: function 34 -/
mutual
def bits_Name.j0 : Nat → ByteArray → Bool → Option (Bool)
 | 0, _, _ => none
 | k + 1, x0, x13 => if x13 = true then (some false) else (bits_Name.l0 k x0 (x0.size : Int) 0)
def bits_Name.l0 : Nat → ByteArray → Int → Int → Option (Bool)
 | 0, _, _, _ => none
 | k + 1, x0, x15, x16 => if x16 < x15 then (if 0 ≤ x16 then (if x16 < (x0.size : Int) then (if (bt x0 x16) ≥ 97 then (if (bt x0 x16) ≤ 122 then (bits_Name.l0 k x0 x15 (wrap64 (x16 + 1))) else (if (bt x0 x16) ≥ 65 then (if ((bt x0 x16) ≤ 90) then (bits_Name.l0 k x0 x15 (wrap64 (x16 + 1))) else (if x16 = 0 then (some false) else (if (bt x0 x16) = 95 then (bits_Name.l0 k x0 x15 (wrap64 (x16 + 1))) else (if (bt x0 x16) < 48 then (some false) else (if (bt x0 x16) > 57 then (some false) else (bits_Name.l0 k x0 x15 (wrap64 (x16 + 1)))))))) else (if x16 = 0 then (some false) else (if (bt x0 x16) = 95 then (bits_Name.l0 k x0 x15 (wrap64 (x16 + 1))) else (if (bt x0 x16) < 48 then (some false) else (if (bt x0 x16) > 57 then (some false) else (bits_Name.l0 k x0 x15 (wrap64 (x16 + 1))))))))) else (if (bt x0 x16) ≥ 65 then (if ((bt x0 x16) ≤ 90) then (bits_Name.l0 k x0 x15 (wrap64 (x16 + 1))) else (if x16 = 0 then (some false) else (if (bt x0 x16) = 95 then (bits_Name.l0 k x0 x15 (wrap64 (x16 + 1))) else (if (bt x0 x16) < 48 then (some false) else (if (bt x0 x16) > 57 then (some false) else (bits_Name.l0 k x0 x15 (wrap64 (x16 + 1)))))))) else (if x16 = 0 then (some false) else (if (bt x0 x16) = 95 then (bits_Name.l0 k x0 x15 (wrap64 (x16 + 1))) else (if (bt x0 x16) < 48 then (some false) else (if (bt x0 x16) > 57 then (some false) else (bits_Name.l0 k x0 x15 (wrap64 (x16 + 1))))))))) else (none)) else (none)) else (some true)
end
def bits_Name.f (k : Nat) (a0 : ByteArray) : Option (Bool) := if (a0.size : Int) < 1 then (bits_Name.j0 k a0 true) else (bits_Name.j0 k a0 (decide ((a0.size : Int) > 24)))
theorem bits_Name.mono_l : ∀ k, (∀ y0 y1, LeO (bits_Name.j0 k y0 y1) (bits_Name.j0 (k + 1) y0 y1)) ∧ (∀ y0 y1 y2, LeO (bits_Name.l0 k y0 y1 y2) (bits_Name.l0 (k + 1) y0 y1 y2))
 | 0 => ⟨fun _ _ r h => by simp [bits_Name.j0] at h, fun _ _ _ r h => by simp [bits_Name.l0] at h⟩
 | k + 1 => by
  obtain ⟨ih0, ih1⟩ := bits_Name.mono_l k
  refine ⟨?_, ?_⟩
  ·intro y0 y1
   unfold bits_Name.j0
   repeat' first
   | (with_reducible exact ih0 _ _)
   | (with_reducible exact ih1 _ _ _)
   | (with_reducible exact LeO.refl _)
   | (with_reducible exact LeO.none _)
   | (with_reducible refine LeO.ite ?_ ?_)
   | (with_reducible refine LeO.bind ?_ (fun _ => ?_))
   | exact ih0 _ _
   | exact ih1 _ _ _
   | exact LeO.none _
   | refine LeO.ite ?_ ?_
   | refine LeO.bind ?_ (fun _ => ?_)
  ·intro y0 y1 y2
   unfold bits_Name.l0
   repeat' first
   | (with_reducible exact ih0 _ _)
   | (with_reducible exact ih1 _ _ _)
   | (with_reducible exact LeO.refl _)
   | (with_reducible exact LeO.none _)
   | (with_reducible refine LeO.ite ?_ ?_)
   | (with_reducible refine LeO.bind ?_ (fun _ => ?_))
   | exact ih0 _ _
   | exact ih1 _ _ _
   | exact LeO.none _
   | refine LeO.ite ?_ ?_
   | refine LeO.bind ?_ (fun _ => ?_)
theorem bits_Name.mono : ∀ a0 k, LeO (bits_Name.f k a0) (bits_Name.f (k + 1) a0) := by
 intro a0 k
 obtain ⟨ih0, ih1⟩ := bits_Name.mono_l k
 unfold bits_Name.f
 repeat' first
   | (with_reducible exact ih0 _ _)
   | (with_reducible exact ih1 _ _ _)
   | (with_reducible exact LeO.refl _)
   | (with_reducible exact LeO.none _)
   | (with_reducible refine LeO.ite ?_ ?_)
   | (with_reducible refine LeO.bind ?_ (fun _ => ?_))
   | exact ih0 _ _
   | exact ih1 _ _ _
   | exact LeO.none _
   | refine LeO.ite ?_ ?_
   | refine LeO.bind ?_ (fun _ => ?_)
set_option maxHeartbeats 8000000 in
set_option maxRecDepth 100000 in
theorem bits_Name.calls (k : Nat) (a0 : ByteArray) (r : Bool) (w : World) (h : bits_Name.f k a0 = some r) :
  Calls Tryd.prog 34 #[.string a0] w fun e w' => e = .returned (.bool r) ∧ Drawn0 w w' := by
 have H : (if (a0.size : Int) < 1 then (bits_Name.j0 k a0 true) else (bits_Name.j0 k a0 (decide ((a0.size : Int) > 24)))) = some r := h
 clear h
 have HC2 := Aside0.mk H
 clear H
 go_enter Tryd.func34, Tryd.ntmps34
 go_upto_region 1 with (fail)
 go_cut [13] (fun v13 wc => ∃ (kq : Nat) (x13_1 : Bool), v13 = .bool x13_1 ∧ Aside0 (bits_Name.j0 kq a0 x13_1 = some r) ∧ Aside0 (kq ≤ k) ∧ Drawn0 w wc)
 case first =>
  have H := HC2.out
  clear HC2
  by_cases c3 : (a0.size : Int) < 1
  ·rw [if_pos c3] at H
   have c3b0 : decide ((a0.size : Int) < 1) = true := decide_eq_true c3
   have c3b1 : decide (a0.size < 1) = true := decide_eq_true q29_
   clear c3
   (first | rw [c3b0] | (simp only [i64_w, i32_w]; rw [c3b0]) | skip)
   have H' := Aside0.mk H
   clear H
   go_wp2
   go_meet
   case rel => exact ⟨_, (true), q10_, H', ⟨by first | omega | exact Nat.le_refl _⟩, by repeat (first | exact Drawn0.refl _ | apply Drawn0.step)⟩
  ·rw [if_neg c3] at H
   have c3b0 : decide ((a0.size : Int) < 1) = false := decide_eq_false c3
   have c3b1 : decide (a0.size < 1) = false := decide_eq_false q29_
   clear c3
   (first | rw [c3b0] | (simp only [i64_w, i32_w]; rw [c3b0]) | skip)
   have H' := Aside0.mk H
   clear H
   go_wp2
   go_meet
   case rel => exact ⟨_, (decide ((a0.size : Int) > 24)), q10_, H', ⟨by first | omega | exact Nat.le_refl _⟩, by repeat (first | exact Drawn0.refl _ | apply Drawn0.step)⟩
 case rest =>
  clear HC2
  try clear p2
  try clear c3
  try clear c3b0
  try clear c3b1
  obtain ⟨kq, x13_1, rfl, HA, HJ1, ⟨mc1, rfl⟩⟩ := hcut
  cases kq with
  | zero => exact absurd HA.out (by simp [bits_Name.j0])
  | succ kj1 =>
   have H := HA.out
   clear HA
   simp only [bits_Name.j0] at H
   by_cases c4 : x13_1 = true
   ·subst c4
    have H1 : (some false) = some r := by rw [if_pos rfl] at H; exact H
    clear H
    have H := H1
    clear H1
    obtain rfl := Option.some.inj H
    go_wp2
    go_ret
    exact ⟨by first | rfl | (simp; done) | (simp [*]; done), by repeat (first | exact Drawn0.refl _ | apply Drawn0.step)⟩
   ·replace c4 := Bool.eq_false_iff.mpr c4
    subst c4
    have H1 : (bits_Name.l0 kj1 a0 (a0.size : Int) 0) = some r := by rw [if_neg (show ¬ (false = true) by decide)] at H; exact H
    clear H
    have H := H1
    clear H1
    have H' := Aside0.mk H
    clear H
    go_wp2
    go_loopg [16] kj1 (fun kq v16 w' => ∃ (x16_2 : Int), v16 = .int .i64 x16_2 ∧ Aside0 (bits_Name.l0 kq a0 (a0.size : Int) x16_2 = some r) ∧ Aside0 (kq ≤ kj1) ∧ Drawn0 w w')
    case atStart => exact ⟨(0), q10_, H', ⟨Nat.le_refl _⟩, by repeat (first | exact Drawn0.refl _ | apply Drawn0.step)⟩
    case round =>
     clear H'
     try clear c1
     try clear p2
     try clear c3
     try clear c3b0
     try clear c3b1
     try clear c4
     try clear p2
     obtain ⟨x16_2, rfl, HA, HK2, ⟨m2, rfl⟩⟩ := hrel
     cases gk with
     | zero => exact absurd HA.out (by simp [bits_Name.l0])
     | succ k2 =>
      have H := HA.out
      clear HA
      simp only [bits_Name.l0] at H
      by_cases c5 : x16_2 < (a0.size : Int)
      ·rw [if_pos c5] at H
       have c5b0 : decide (x16_2 < (a0.size : Int)) = true := decide_eq_true c5
       clear c5
       by_cases c6 : 0 ≤ x16_2
       ·rw [if_pos c6] at H
        have c6b0 : decide (0 ≤ x16_2) = true := decide_eq_true c6
        clear c6
        by_cases c7 : x16_2 < (a0.size : Int)
        ·rw [if_pos c7] at H
         have c7b0 : decide (x16_2 < (a0.size : Int)) = true := decide_eq_true c7
         clear c7
         by_cases c9 : (bt a0 x16_2) ≥ 97
         ·rw [if_pos c9] at H
          have c9b0 : decide (97 ≤ (bt a0 x16_2)) = true := decide_eq_true c9
          clear c9
          by_cases c10 : (bt a0 x16_2) ≤ 122
          ·rw [if_pos c10] at H
           have c10b0 : decide ((bt a0 x16_2) ≤ 122) = true := decide_eq_true c10
           clear c10
           have H' := Aside0.mk H
           clear H
           have p8 : 0 ≤ (x16_2 : Int) := of_decide_eq_true q2_
           have q8 : x16_2 < (a0.size : Int) := of_decide_eq_true q2_
           have hx8 := bt_at a0 x16_2
           replace p8 := eq_true p8
           replace q8 := eq_true q8
           go_wp2
           go_roundg k2
           case measure => have := HJ1.out; have := HK2.out; omega
           case rel => exact ⟨(wrap64 (x16_2 + 1)), q10_, H', ⟨by have := HJ1.out; have := HK2.out; omega⟩, by repeat (first | exact Drawn0.refl _ | apply Drawn0.step)⟩
          ·rw [if_neg c10] at H
           have c10b0 : decide ((bt a0 x16_2) ≤ 122) = false := decide_eq_false c10
           clear c10
           by_cases c11 : (bt a0 x16_2) ≥ 65
           ·rw [if_pos c11] at H
            have c11b0 : decide (65 ≤ (bt a0 x16_2)) = true := decide_eq_true c11
            clear c11
            by_cases c12 : ((bt a0 x16_2) ≤ 90)
            ·rw [if_pos c12] at H
             have c12b0 : decide ((bt a0 x16_2) ≤ 90) = true := decide_eq_true c12
             clear c12
             have H' := Aside0.mk H
             clear H
             have p8 : 0 ≤ (x16_2 : Int) := of_decide_eq_true q2_
             have q8 : x16_2 < (a0.size : Int) := of_decide_eq_true q2_
             have hx8 := bt_at a0 x16_2
             replace p8 := eq_true p8
             replace q8 := eq_true q8
             go_wp2
             go_roundg k2
             case measure => have := HJ1.out; have := HK2.out; omega
             case rel => exact ⟨(wrap64 (x16_2 + 1)), q10_, H', ⟨by have := HJ1.out; have := HK2.out; omega⟩, by repeat (first | exact Drawn0.refl _ | apply Drawn0.step)⟩
            ·rw [if_neg c12] at H
             have c12b0 : decide ((bt a0 x16_2) ≤ 90) = false := decide_eq_false c12
             clear c12
             by_cases c13 : x16_2 = 0
             ·rw [if_pos c13] at H
              have c13b0 : (x16_2 == 0) = true := beq_iff_eq.mpr c13
              have c13b1 : (x16_2 != 0) = false := bne_eq_false_iff_eq.mpr c13
              clear c13
              obtain rfl := Option.some.inj H
              have p8 : 0 ≤ (x16_2 : Int) := of_decide_eq_true q2_
              have q8 : x16_2 < (a0.size : Int) := of_decide_eq_true q2_
              have hx8 := bt_at a0 x16_2
              replace p8 := eq_true p8
              replace q8 := eq_true q8
              go_wp2
              go_ret
              exact ⟨by first | rfl | (simp; done) | (simp [*]; done), by repeat (first | exact Drawn0.refl _ | apply Drawn0.step)⟩
             ·rw [if_neg c13] at H
              have c13b0 : (x16_2 == 0) = false := beq_eq_false_iff_ne.mpr c13
              have c13b1 : (x16_2 != 0) = true := bne_iff_ne.mpr c13
              by_cases c14 : (bt a0 x16_2) = 95
              ·rw [if_pos c14] at H
               have c14b0 : ((bt a0 x16_2) == 95) = true := beq_iff_eq.mpr c14
               have c14b1 : ((bt a0 x16_2) != 95) = false := bne_eq_false_iff_eq.mpr c14
               clear c14
               have H' := Aside0.mk H
               clear H
               have p8 : 0 ≤ (x16_2 : Int) := of_decide_eq_true q2_
               have q8 : x16_2 < (a0.size : Int) := of_decide_eq_true q2_
               have hx8 := bt_at a0 x16_2
               replace p8 := eq_true p8
               replace q8 := eq_true q8
               go_wp2
               go_roundg k2
               case measure => have := HJ1.out; have := HK2.out; omega
               case rel => exact ⟨(wrap64 (x16_2 + 1)), q10_, H', ⟨by have := HJ1.out; have := HK2.out; omega⟩, by repeat (first | exact Drawn0.refl _ | apply Drawn0.step)⟩
              ·rw [if_neg c14] at H
               have c14b0 : ((bt a0 x16_2) == 95) = false := beq_eq_false_iff_ne.mpr c14
               have c14b1 : ((bt a0 x16_2) != 95) = true := bne_iff_ne.mpr c14
               by_cases c15 : (bt a0 x16_2) < 48
               ·rw [if_pos c15] at H
                have c15b0 : decide ((bt a0 x16_2) < 48) = true := decide_eq_true c15
                clear c15
                obtain rfl := Option.some.inj H
                have p8 : 0 ≤ (x16_2 : Int) := of_decide_eq_true q2_
                have q8 : x16_2 < (a0.size : Int) := of_decide_eq_true q2_
                have hx8 := bt_at a0 x16_2
                replace p8 := eq_true p8
                replace q8 := eq_true q8
                go_wp2
                go_ret
                exact ⟨by first | rfl | (simp; done) | (simp [*]; done), by repeat (first | exact Drawn0.refl _ | apply Drawn0.step)⟩
               ·rw [if_neg c15] at H
                have c15b0 : decide ((bt a0 x16_2) < 48) = false := decide_eq_false c15
                clear c15
                by_cases c16 : (bt a0 x16_2) > 57
                ·rw [if_pos c16] at H
                 have c16b0 : decide (57 < (bt a0 x16_2)) = true := decide_eq_true c16
                 clear c16
                 obtain rfl := Option.some.inj H
                 have p8 : 0 ≤ (x16_2 : Int) := of_decide_eq_true q2_
                 have q8 : x16_2 < (a0.size : Int) := of_decide_eq_true q2_
                 have hx8 := bt_at a0 x16_2
                 replace p8 := eq_true p8
                 replace q8 := eq_true q8
                 go_wp2
                 go_ret
                 exact ⟨by first | rfl | (simp; done) | (simp [*]; done), by repeat (first | exact Drawn0.refl _ | apply Drawn0.step)⟩
                ·rw [if_neg c16] at H
                 have c16b0 : decide (57 < (bt a0 x16_2)) = false := decide_eq_false c16
                 clear c16
                 have H' := Aside0.mk H
                 clear H
                 have p8 : 0 ≤ (x16_2 : Int) := of_decide_eq_true q2_
                 have q8 : x16_2 < (a0.size : Int) := of_decide_eq_true q2_
                 have hx8 := bt_at a0 x16_2
                 replace p8 := eq_true p8
                 replace q8 := eq_true q8
                 go_wp2
                 go_roundg k2
                 case measure => have := HJ1.out; have := HK2.out; omega
                 case rel => exact ⟨(wrap64 (x16_2 + 1)), q10_, H', ⟨by have := HJ1.out; have := HK2.out; omega⟩, by repeat (first | exact Drawn0.refl _ | apply Drawn0.step)⟩
           ·rw [if_neg c11] at H
            have c11b0 : decide (65 ≤ (bt a0 x16_2)) = false := decide_eq_false c11
            clear c11
            by_cases c17 : x16_2 = 0
            ·rw [if_pos c17] at H
             have c17b0 : (x16_2 == 0) = true := beq_iff_eq.mpr c17
             have c17b1 : (x16_2 != 0) = false := bne_eq_false_iff_eq.mpr c17
             clear c17
             obtain rfl := Option.some.inj H
             have p8 : 0 ≤ (x16_2 : Int) := of_decide_eq_true q2_
             have q8 : x16_2 < (a0.size : Int) := of_decide_eq_true q2_
             have hx8 := bt_at a0 x16_2
             replace p8 := eq_true p8
             replace q8 := eq_true q8
             go_wp2
             go_ret
             exact ⟨by first | rfl | (simp; done) | (simp [*]; done), by repeat (first | exact Drawn0.refl _ | apply Drawn0.step)⟩
            ·rw [if_neg c17] at H
             have c17b0 : (x16_2 == 0) = false := beq_eq_false_iff_ne.mpr c17
             have c17b1 : (x16_2 != 0) = true := bne_iff_ne.mpr c17
             by_cases c18 : (bt a0 x16_2) = 95
             ·rw [if_pos c18] at H
              have c18b0 : ((bt a0 x16_2) == 95) = true := beq_iff_eq.mpr c18
              have c18b1 : ((bt a0 x16_2) != 95) = false := bne_eq_false_iff_eq.mpr c18
              clear c18
              have H' := Aside0.mk H
              clear H
              have p8 : 0 ≤ (x16_2 : Int) := of_decide_eq_true q2_
              have q8 : x16_2 < (a0.size : Int) := of_decide_eq_true q2_
              have hx8 := bt_at a0 x16_2
              replace p8 := eq_true p8
              replace q8 := eq_true q8
              go_wp2
              go_roundg k2
              case measure => have := HJ1.out; have := HK2.out; omega
              case rel => exact ⟨(wrap64 (x16_2 + 1)), q10_, H', ⟨by have := HJ1.out; have := HK2.out; omega⟩, by repeat (first | exact Drawn0.refl _ | apply Drawn0.step)⟩
             ·rw [if_neg c18] at H
              have c18b0 : ((bt a0 x16_2) == 95) = false := beq_eq_false_iff_ne.mpr c18
              have c18b1 : ((bt a0 x16_2) != 95) = true := bne_iff_ne.mpr c18
              by_cases c19 : (bt a0 x16_2) < 48
              ·rw [if_pos c19] at H
               have c19b0 : decide ((bt a0 x16_2) < 48) = true := decide_eq_true c19
               clear c19
               obtain rfl := Option.some.inj H
               have p8 : 0 ≤ (x16_2 : Int) := of_decide_eq_true q2_
               have q8 : x16_2 < (a0.size : Int) := of_decide_eq_true q2_
               have hx8 := bt_at a0 x16_2
               replace p8 := eq_true p8
               replace q8 := eq_true q8
               go_wp2
               go_ret
               exact ⟨by first | rfl | (simp; done) | (simp [*]; done), by repeat (first | exact Drawn0.refl _ | apply Drawn0.step)⟩
              ·rw [if_neg c19] at H
               have c19b0 : decide ((bt a0 x16_2) < 48) = false := decide_eq_false c19
               clear c19
               by_cases c20 : (bt a0 x16_2) > 57
               ·rw [if_pos c20] at H
                have c20b0 : decide (57 < (bt a0 x16_2)) = true := decide_eq_true c20
                clear c20
                obtain rfl := Option.some.inj H
                have p8 : 0 ≤ (x16_2 : Int) := of_decide_eq_true q2_
                have q8 : x16_2 < (a0.size : Int) := of_decide_eq_true q2_
                have hx8 := bt_at a0 x16_2
                replace p8 := eq_true p8
                replace q8 := eq_true q8
                go_wp2
                go_ret
                exact ⟨by first | rfl | (simp; done) | (simp [*]; done), by repeat (first | exact Drawn0.refl _ | apply Drawn0.step)⟩
               ·rw [if_neg c20] at H
                have c20b0 : decide (57 < (bt a0 x16_2)) = false := decide_eq_false c20
                clear c20
                have H' := Aside0.mk H
                clear H
                have p8 : 0 ≤ (x16_2 : Int) := of_decide_eq_true q2_
                have q8 : x16_2 < (a0.size : Int) := of_decide_eq_true q2_
                have hx8 := bt_at a0 x16_2
                replace p8 := eq_true p8
                replace q8 := eq_true q8
                go_wp2
                go_roundg k2
                case measure => have := HJ1.out; have := HK2.out; omega
                case rel => exact ⟨(wrap64 (x16_2 + 1)), q10_, H', ⟨by have := HJ1.out; have := HK2.out; omega⟩, by repeat (first | exact Drawn0.refl _ | apply Drawn0.step)⟩
         ·rw [if_neg c9] at H
          have c9b0 : decide (97 ≤ (bt a0 x16_2)) = false := decide_eq_false c9
          clear c9
          by_cases c21 : (bt a0 x16_2) ≥ 65
          ·rw [if_pos c21] at H
           have c21b0 : decide (65 ≤ (bt a0 x16_2)) = true := decide_eq_true c21
           clear c21
           by_cases c22 : ((bt a0 x16_2) ≤ 90)
           ·rw [if_pos c22] at H
            have c22b0 : decide ((bt a0 x16_2) ≤ 90) = true := decide_eq_true c22
            clear c22
            have H' := Aside0.mk H
            clear H
            have p8 : 0 ≤ (x16_2 : Int) := of_decide_eq_true q2_
            have q8 : x16_2 < (a0.size : Int) := of_decide_eq_true q2_
            have hx8 := bt_at a0 x16_2
            replace p8 := eq_true p8
            replace q8 := eq_true q8
            go_wp2
            go_roundg k2
            case measure => have := HJ1.out; have := HK2.out; omega
            case rel => exact ⟨(wrap64 (x16_2 + 1)), q10_, H', ⟨by have := HJ1.out; have := HK2.out; omega⟩, by repeat (first | exact Drawn0.refl _ | apply Drawn0.step)⟩
           ·rw [if_neg c22] at H
            have c22b0 : decide ((bt a0 x16_2) ≤ 90) = false := decide_eq_false c22
            clear c22
            by_cases c23 : x16_2 = 0
            ·rw [if_pos c23] at H
             have c23b0 : (x16_2 == 0) = true := beq_iff_eq.mpr c23
             have c23b1 : (x16_2 != 0) = false := bne_eq_false_iff_eq.mpr c23
             clear c23
             obtain rfl := Option.some.inj H
             have p8 : 0 ≤ (x16_2 : Int) := of_decide_eq_true q2_
             have q8 : x16_2 < (a0.size : Int) := of_decide_eq_true q2_
             have hx8 := bt_at a0 x16_2
             replace p8 := eq_true p8
             replace q8 := eq_true q8
             go_wp2
             go_ret
             exact ⟨by first | rfl | (simp; done) | (simp [*]; done), by repeat (first | exact Drawn0.refl _ | apply Drawn0.step)⟩
            ·rw [if_neg c23] at H
             have c23b0 : (x16_2 == 0) = false := beq_eq_false_iff_ne.mpr c23
             have c23b1 : (x16_2 != 0) = true := bne_iff_ne.mpr c23
             by_cases c24 : (bt a0 x16_2) = 95
             ·rw [if_pos c24] at H
              have c24b0 : ((bt a0 x16_2) == 95) = true := beq_iff_eq.mpr c24
              have c24b1 : ((bt a0 x16_2) != 95) = false := bne_eq_false_iff_eq.mpr c24
              clear c24
              have H' := Aside0.mk H
              clear H
              have p8 : 0 ≤ (x16_2 : Int) := of_decide_eq_true q2_
              have q8 : x16_2 < (a0.size : Int) := of_decide_eq_true q2_
              have hx8 := bt_at a0 x16_2
              replace p8 := eq_true p8
              replace q8 := eq_true q8
              go_wp2
              go_roundg k2
              case measure => have := HJ1.out; have := HK2.out; omega
              case rel => exact ⟨(wrap64 (x16_2 + 1)), q10_, H', ⟨by have := HJ1.out; have := HK2.out; omega⟩, by repeat (first | exact Drawn0.refl _ | apply Drawn0.step)⟩
             ·rw [if_neg c24] at H
              have c24b0 : ((bt a0 x16_2) == 95) = false := beq_eq_false_iff_ne.mpr c24
              have c24b1 : ((bt a0 x16_2) != 95) = true := bne_iff_ne.mpr c24
              by_cases c25 : (bt a0 x16_2) < 48
              ·rw [if_pos c25] at H
               have c25b0 : decide ((bt a0 x16_2) < 48) = true := decide_eq_true c25
               clear c25
               obtain rfl := Option.some.inj H
               have p8 : 0 ≤ (x16_2 : Int) := of_decide_eq_true q2_
               have q8 : x16_2 < (a0.size : Int) := of_decide_eq_true q2_
               have hx8 := bt_at a0 x16_2
               replace p8 := eq_true p8
               replace q8 := eq_true q8
               go_wp2
               go_ret
               exact ⟨by first | rfl | (simp; done) | (simp [*]; done), by repeat (first | exact Drawn0.refl _ | apply Drawn0.step)⟩
              ·rw [if_neg c25] at H
               have c25b0 : decide ((bt a0 x16_2) < 48) = false := decide_eq_false c25
               clear c25
               by_cases c26 : (bt a0 x16_2) > 57
               ·rw [if_pos c26] at H
                have c26b0 : decide (57 < (bt a0 x16_2)) = true := decide_eq_true c26
                clear c26
                obtain rfl := Option.some.inj H
                have p8 : 0 ≤ (x16_2 : Int) := of_decide_eq_true q2_
                have q8 : x16_2 < (a0.size : Int) := of_decide_eq_true q2_
                have hx8 := bt_at a0 x16_2
                replace p8 := eq_true p8
                replace q8 := eq_true q8
                go_wp2
                go_ret
                exact ⟨by first | rfl | (simp; done) | (simp [*]; done), by repeat (first | exact Drawn0.refl _ | apply Drawn0.step)⟩
               ·rw [if_neg c26] at H
                have c26b0 : decide (57 < (bt a0 x16_2)) = false := decide_eq_false c26
                clear c26
                have H' := Aside0.mk H
                clear H
                have p8 : 0 ≤ (x16_2 : Int) := of_decide_eq_true q2_
                have q8 : x16_2 < (a0.size : Int) := of_decide_eq_true q2_
                have hx8 := bt_at a0 x16_2
                replace p8 := eq_true p8
                replace q8 := eq_true q8
                go_wp2
                go_roundg k2
                case measure => have := HJ1.out; have := HK2.out; omega
                case rel => exact ⟨(wrap64 (x16_2 + 1)), q10_, H', ⟨by have := HJ1.out; have := HK2.out; omega⟩, by repeat (first | exact Drawn0.refl _ | apply Drawn0.step)⟩
          ·rw [if_neg c21] at H
           have c21b0 : decide (65 ≤ (bt a0 x16_2)) = false := decide_eq_false c21
           clear c21
           by_cases c27 : x16_2 = 0
           ·rw [if_pos c27] at H
            have c27b0 : (x16_2 == 0) = true := beq_iff_eq.mpr c27
            have c27b1 : (x16_2 != 0) = false := bne_eq_false_iff_eq.mpr c27
            clear c27
            obtain rfl := Option.some.inj H
            have p8 : 0 ≤ (x16_2 : Int) := of_decide_eq_true q2_
            have q8 : x16_2 < (a0.size : Int) := of_decide_eq_true q2_
            have hx8 := bt_at a0 x16_2
            replace p8 := eq_true p8
            replace q8 := eq_true q8
            go_wp2
            go_ret
            exact ⟨by first | rfl | (simp; done) | (simp [*]; done), by repeat (first | exact Drawn0.refl _ | apply Drawn0.step)⟩
           ·rw [if_neg c27] at H
            have c27b0 : (x16_2 == 0) = false := beq_eq_false_iff_ne.mpr c27
            have c27b1 : (x16_2 != 0) = true := bne_iff_ne.mpr c27
            by_cases c28 : (bt a0 x16_2) = 95
            ·rw [if_pos c28] at H
             have c28b0 : ((bt a0 x16_2) == 95) = true := beq_iff_eq.mpr c28
             have c28b1 : ((bt a0 x16_2) != 95) = false := bne_eq_false_iff_eq.mpr c28
             clear c28
             have H' := Aside0.mk H
             clear H
             have p8 : 0 ≤ (x16_2 : Int) := of_decide_eq_true q2_
             have q8 : x16_2 < (a0.size : Int) := of_decide_eq_true q2_
             have hx8 := bt_at a0 x16_2
             replace p8 := eq_true p8
             replace q8 := eq_true q8
             go_wp2
             go_roundg k2
             case measure => have := HJ1.out; have := HK2.out; omega
             case rel => exact ⟨(wrap64 (x16_2 + 1)), q10_, H', ⟨by have := HJ1.out; have := HK2.out; omega⟩, by repeat (first | exact Drawn0.refl _ | apply Drawn0.step)⟩
            ·rw [if_neg c28] at H
             have c28b0 : ((bt a0 x16_2) == 95) = false := beq_eq_false_iff_ne.mpr c28
             have c28b1 : ((bt a0 x16_2) != 95) = true := bne_iff_ne.mpr c28
             by_cases c29 : (bt a0 x16_2) < 48
             ·rw [if_pos c29] at H
              have c29b0 : decide ((bt a0 x16_2) < 48) = true := decide_eq_true c29
              clear c29
              obtain rfl := Option.some.inj H
              have p8 : 0 ≤ (x16_2 : Int) := of_decide_eq_true q2_
              have q8 : x16_2 < (a0.size : Int) := of_decide_eq_true q2_
              have hx8 := bt_at a0 x16_2
              replace p8 := eq_true p8
              replace q8 := eq_true q8
              go_wp2
              go_ret
              exact ⟨by first | rfl | (simp; done) | (simp [*]; done), by repeat (first | exact Drawn0.refl _ | apply Drawn0.step)⟩
             ·rw [if_neg c29] at H
              have c29b0 : decide ((bt a0 x16_2) < 48) = false := decide_eq_false c29
              clear c29
              by_cases c30 : (bt a0 x16_2) > 57
              ·rw [if_pos c30] at H
               have c30b0 : decide (57 < (bt a0 x16_2)) = true := decide_eq_true c30
               clear c30
               obtain rfl := Option.some.inj H
               have p8 : 0 ≤ (x16_2 : Int) := of_decide_eq_true q2_
               have q8 : x16_2 < (a0.size : Int) := of_decide_eq_true q2_
               have hx8 := bt_at a0 x16_2
               replace p8 := eq_true p8
               replace q8 := eq_true q8
               go_wp2
               go_ret
               exact ⟨by first | rfl | (simp; done) | (simp [*]; done), by repeat (first | exact Drawn0.refl _ | apply Drawn0.step)⟩
              ·rw [if_neg c30] at H
               have c30b0 : decide (57 < (bt a0 x16_2)) = false := decide_eq_false c30
               clear c30
               have H' := Aside0.mk H
               clear H
               have p8 : 0 ≤ (x16_2 : Int) := of_decide_eq_true q2_
               have q8 : x16_2 < (a0.size : Int) := of_decide_eq_true q2_
               have hx8 := bt_at a0 x16_2
               replace p8 := eq_true p8
               replace q8 := eq_true q8
               go_wp2
               go_roundg k2
               case measure => have := HJ1.out; have := HK2.out; omega
               case rel => exact ⟨(wrap64 (x16_2 + 1)), q10_, H', ⟨by have := HJ1.out; have := HK2.out; omega⟩, by repeat (first | exact Drawn0.refl _ | apply Drawn0.step)⟩
        ·rw [if_neg c7] at H
         exact absurd H (by simp)
       ·rw [if_neg c6] at H
        exact absurd H (by simp)
      ·rw [if_neg c5] at H
       have c5b0 : decide (x16_2 < (a0.size : Int)) = false := decide_eq_false c5
       clear c5
       obtain rfl := Option.some.inj H
       go_wp2
       go_ret
       exact ⟨by first | rfl | (simp; done) | (simp [*]; done), by repeat (first | exact Drawn0.refl _ | apply Drawn0.step)⟩

/-! ### stringslite_HasPrefix: function 88 -/
def stringslite_HasPrefix.f (a0 : ByteArray) (a1 : ByteArray) : Option (Bool) := if (a0.size : Int) ≥ (a1.size : Int) then (if 0 ≤ (a1.size : Int) then (if (a1.size : Int) ≤ (a0.size : Int) then (some ((a0.extract 0 ((a1.size : Int) : Int).toNat).toList == a1.toList)) else (none)) else (none)) else (some false)
set_option maxHeartbeats 8000000 in
set_option maxRecDepth 100000 in
theorem stringslite_HasPrefix.calls (a0 : ByteArray) (a1 : ByteArray) (r : Bool) (w : World) (h : stringslite_HasPrefix.f a0 a1 = some r) :
  Calls Tryd.prog 88 #[.string a0, .string a1] w fun e w' => e = .returned (.bool r) ∧ Drawn0 w w' := by
 have H : (if (a0.size : Int) ≥ (a1.size : Int) then (if 0 ≤ (a1.size : Int) then (if (a1.size : Int) ≤ (a0.size : Int) then (some ((a0.extract 0 ((a1.size : Int) : Int).toNat).toList == a1.toList)) else (none)) else (none)) else (some false)) = some r := h
 clear h
 by_cases c3 : (a0.size : Int) ≥ (a1.size : Int)
 ·rw [if_pos c3] at H
  have c3b0 : decide ((a1.size : Int) ≤ (a0.size : Int)) = true := decide_eq_true c3
  have c3b1 : decide (a1.size ≤ a0.size) = true := decide_eq_true (Int.ofNat_le.mp c3)
  clear c3
  by_cases c4 : 0 ≤ (a1.size : Int)
  ·rw [if_pos c4] at H
   have c4b0 := eq_true c4
   have c4b1 : decide (0 ≤ (a1.size : Int)) = true := decide_eq_true c4
   clear c4
   by_cases c5 : (a1.size : Int) ≤ (a0.size : Int)
   ·rw [if_pos c5] at H
    have c5b0 := eq_true c5
    have c5b1 : decide ((a1.size : Int) ≤ (a0.size : Int)) = true := decide_eq_true c5
    clear c5
    obtain rfl := Option.some.inj H
    go_enter Tryd.func88, Tryd.ntmps88
    go_wp2
    go_ret
    exact ⟨by first | rfl | (simp; done) | (simp [*]; done), by repeat (first | exact Drawn0.refl _ | apply Drawn0.step)⟩
   ·rw [if_neg c5] at H
    exact absurd H (by simp)
  ·rw [if_neg c4] at H
   exact absurd H (by simp)
 ·rw [if_neg c3] at H
  have c3b0 : decide ((a1.size : Int) ≤ (a0.size : Int)) = false := decide_eq_false c3
  have c3b1 : decide (a1.size ≤ a0.size) = false := decide_eq_false (fun h => c3 (Int.ofNat_le.mpr h))
  clear c3
  obtain rfl := Option.some.inj H
  go_enter Tryd.func88, Tryd.ntmps88
  go_wp2
  go_ret
  exact ⟨by first | rfl | (simp; done) | (simp [*]; done), by repeat (first | exact Drawn0.refl _ | apply Drawn0.step)⟩

/-! ### stringslite_TrimPrefix: function 60 -/
def stringslite_TrimPrefix.f (a0 : ByteArray) (a1 : ByteArray) : Option (ByteArray) := (stringslite_HasPrefix.f a0 a1).bind fun t106 => (if t106 = true then (if 0 ≤ (a1.size : Int) then (if (a1.size : Int) ≤ (a0.size : Int) then (some (a0.extract ((a1.size : Int) : Int).toNat a0.size)) else (none)) else (none)) else (some a0))
set_option maxHeartbeats 8000000 in
set_option maxRecDepth 100000 in
theorem stringslite_TrimPrefix.calls (a0 : ByteArray) (a1 : ByteArray) (r : ByteArray) (w : World) (h : stringslite_TrimPrefix.f a0 a1 = some r) :
  Calls Tryd.prog 60 #[.string a0, .string a1] w fun e w' => e = .returned (.string r) ∧ Drawn0 w w' := by
 have H : ((stringslite_HasPrefix.f a0 a1).bind fun t106 => (if t106 = true then (if 0 ≤ (a1.size : Int) then (if (a1.size : Int) ≤ (a0.size : Int) then (some (a0.extract ((a1.size : Int) : Int).toNat a0.size)) else (none)) else (none)) else (some a0))) = some r := h
 clear h
 replace H := Option.bind_eq_some_iff.mp H
 obtain ⟨t106, A30, H⟩ := H
 replace H : (if t106 = true then (if 0 ≤ (a1.size : Int) then (if (a1.size : Int) ≤ (a0.size : Int) then (some (a0.extract ((a1.size : Int) : Int).toNat a0.size)) else (none)) else (none)) else (some a0)) = some r := H
 have A3 := Aside0.mk A30
 clear A30
 by_cases c4 : t106 = true
 ·subst c4
  have H1 : (if 0 ≤ (a1.size : Int) then (if (a1.size : Int) ≤ (a0.size : Int) then (some (a0.extract ((a1.size : Int) : Int).toNat a0.size)) else (none)) else (none)) = some r := by rw [if_pos rfl] at H; exact H
  clear H
  have H := H1
  clear H1
  by_cases c5 : 0 ≤ (a1.size : Int)
  ·rw [if_pos c5] at H
   have c5b0 := eq_true c5
   have c5b1 : decide (0 ≤ (a1.size : Int)) = true := decide_eq_true c5
   clear c5
   by_cases c6 : (a1.size : Int) ≤ (a0.size : Int)
   ·rw [if_pos c6] at H
    have c6b0 := eq_true c6
    have c6b1 : decide ((a1.size : Int) ≤ (a0.size : Int)) = true := decide_eq_true c6
    clear c6
    obtain rfl := Option.some.inj H
    go_enter Tryd.func60, Tryd.ntmps60
    go_wp2_with (first | ((with_reducible refine gate_callee (f := 88) rfl ?_); refine goesL_ (some 7) rfl rfl Tryd.func88 q28_ rfl #[.string a0, .string a1] rfl q6_ ?_; (with_reducible refine (stringslite_HasPrefix.calls a0 a1 true _ A3.out).mono ?_); rintro e w' ⟨rfl, ⟨nd, rfl⟩⟩; refine ⟨_, rfl, ?_⟩))
    go_ret
    exact ⟨by first | rfl | (simp; done) | (simp [*]; done), by repeat (first | exact Drawn0.refl _ | apply Drawn0.step)⟩
   ·rw [if_neg c6] at H
    exact absurd H (by simp)
  ·rw [if_neg c5] at H
   exact absurd H (by simp)
 ·replace c4 := Bool.eq_false_iff.mpr c4
  subst c4
  have H1 : (some a0) = some r := by rw [if_neg (show ¬ (false = true) by decide)] at H; exact H
  clear H
  have H := H1
  clear H1
  obtain rfl := Option.some.inj H
  go_enter Tryd.func60, Tryd.ntmps60
  go_wp2_with (first | ((with_reducible refine gate_callee (f := 88) rfl ?_); refine goesL_ (some 7) rfl rfl Tryd.func88 q28_ rfl #[.string a0, .string a1] rfl q6_ ?_; (with_reducible refine (stringslite_HasPrefix.calls a0 a1 false _ A3.out).mono ?_); rintro e w' ⟨rfl, ⟨nd, rfl⟩⟩; refine ⟨_, rfl, ?_⟩))
  go_ret
  exact ⟨by first | rfl | (simp; done) | (simp [*]; done), by repeat (first | exact Drawn0.refl _ | apply Drawn0.step)⟩

/-! ### strings_TrimPrefix: function 35 -/
def strings_TrimPrefix.f (a0 : ByteArray) (a1 : ByteArray) : Option (ByteArray) := (stringslite_TrimPrefix.f a0 a1).bind fun t107 => (some t107)
set_option maxHeartbeats 8000000 in
set_option maxRecDepth 100000 in
theorem strings_TrimPrefix.calls (a0 : ByteArray) (a1 : ByteArray) (r : ByteArray) (w : World) (h : strings_TrimPrefix.f a0 a1 = some r) :
  Calls Tryd.prog 35 #[.string a0, .string a1] w fun e w' => e = .returned (.string r) ∧ Drawn0 w w' := by
 have H : ((stringslite_TrimPrefix.f a0 a1).bind fun t107 => (some t107)) = some r := h
 clear h
 replace H := Option.bind_eq_some_iff.mp H
 obtain ⟨t107, A30, H⟩ := H
 replace H : (some t107) = some r := H
 have A3 := Aside0.mk A30
 clear A30
 obtain rfl := Option.some.inj H
 go_enter Tryd.func35, Tryd.ntmps35
 go_wp2_with (first | ((with_reducible refine gate_callee (f := 60) rfl ?_); refine goesL_ (some 7) rfl rfl Tryd.func60 q28_ rfl #[.string a0, .string a1] rfl q6_ ?_; (with_reducible refine (stringslite_TrimPrefix.calls a0 a1 t107 _ A3.out).mono ?_); rintro e w' ⟨rfl, ⟨nd, rfl⟩⟩; refine ⟨_, rfl, ?_⟩))
 go_ret
 exact ⟨by first | rfl | (simp; done) | (simp [*]; done), by repeat (first | exact Drawn0.refl _ | apply Drawn0.step)⟩

/-! ### term_variable: function 61 -/
def term_variable.f (k : Nat) (a0 : ByteArray) : Option (Bool) := (strings_TrimPrefix.f a0 (⟨#[114, 46]⟩ : ByteArray)).bind fun t108 => ((bits_Name.f k t108).bind fun t109 => (some t109))
theorem term_variable.mono : ∀ a0 k, LeO (term_variable.f k a0) (term_variable.f (k + 1) a0) := by
 intro a0 k
 unfold term_variable.f
 repeat' first
   | (with_reducible exact bits_Name.mono _ _)
   | (with_reducible exact LeO.refl _)
   | (with_reducible exact LeO.none _)
   | (with_reducible refine LeO.ite ?_ ?_)
   | (with_reducible refine LeO.bind ?_ (fun _ => ?_))
   | exact bits_Name.mono _ _
   | exact LeO.none _
   | refine LeO.ite ?_ ?_
   | refine LeO.bind ?_ (fun _ => ?_)
set_option maxHeartbeats 8000000 in
set_option maxRecDepth 100000 in
theorem term_variable.calls (k : Nat) (a0 : ByteArray) (r : Bool) (w : World) (h : term_variable.f k a0 = some r) :
  Calls Tryd.prog 61 #[.string a0] w fun e w' => e = .returned (.bool r) ∧ Drawn0 w w' := by
 have H : ((strings_TrimPrefix.f a0 (⟨#[114, 46]⟩ : ByteArray)).bind fun t108 => ((bits_Name.f k t108).bind fun t109 => (some t109))) = some r := h
 clear h
 replace H := Option.bind_eq_some_iff.mp H
 obtain ⟨t108, A20, H⟩ := H
 replace H : ((bits_Name.f k t108).bind fun t109 => (some t109)) = some r := H
 have A2 := Aside0.mk A20
 clear A20
 replace H := Option.bind_eq_some_iff.mp H
 obtain ⟨t109, A30, H⟩ := H
 replace H : (some t109) = some r := H
 have A3 := Aside0.mk A30
 clear A30
 obtain rfl := Option.some.inj H
 go_enter Tryd.func61, Tryd.ntmps61
 go_wp2_with (first | ((with_reducible refine gate_callee (f := 35) rfl ?_); refine goesL_ (some 4) rfl rfl Tryd.func35 q28_ rfl #[.string a0, .string (⟨#[114, 46]⟩ : ByteArray)] rfl q6_ ?_; (with_reducible refine (strings_TrimPrefix.calls a0 (⟨#[114, 46]⟩ : ByteArray) t108 _ A2.out).mono ?_); rintro e w' ⟨rfl, ⟨nd, rfl⟩⟩; refine ⟨_, rfl, ?_⟩) | ((with_reducible refine gate_callee (f := 34) rfl ?_); refine goesL_ (some 5) rfl rfl Tryd.func34 q28_ rfl #[.string t108] rfl q6_ ?_; (with_reducible refine (bits_Name.calls k t108 t109 _ A3.out).mono ?_); rintro e w' ⟨rfl, ⟨nd, rfl⟩⟩; refine ⟨_, rfl, ?_⟩))
 go_ret
 exact ⟨by first | rfl | (simp; done) | (simp [*]; done), by repeat (first | exact Drawn0.refl _ | apply Drawn0.step)⟩

/-! ### bits_wide: function 89 -/
def bits_wide.f (a0 : Int) : Option (Bool) := if a0 ≥ 1 then (some (decide (a0 ≤ 64))) else (some false)
set_option maxHeartbeats 8000000 in
set_option maxRecDepth 100000 in
theorem bits_wide.calls (a0 : Int) (r : Bool) (w : World) (h : bits_wide.f a0 = some r) :
  Calls Tryd.prog 89 #[.int .i64 a0] w fun e w' => e = .returned (.bool r) ∧ Drawn0 w w' := by
 have H : (if a0 ≥ 1 then (some (decide (a0 ≤ 64))) else (some false)) = some r := h
 clear h
 by_cases c2 : a0 ≥ 1
 ·rw [if_pos c2] at H
  have c2b0 : decide (1 ≤ a0) = true := decide_eq_true c2
  clear c2
  obtain rfl := Option.some.inj H
  go_enter Tryd.func89, Tryd.ntmps89
  go_wp2
  go_ret
  exact ⟨by first | rfl | (simp; done) | (simp [*]; done), by repeat (first | exact Drawn0.refl _ | apply Drawn0.step)⟩
 ·rw [if_neg c2] at H
  have c2b0 : decide (1 ≤ a0) = false := decide_eq_false c2
  clear c2
  obtain rfl := Option.some.inj H
  go_enter Tryd.func89, Tryd.ntmps89
  go_wp2
  go_ret
  exact ⟨by first | rfl | (simp; done) | (simp [*]; done), by repeat (first | exact Drawn0.refl _ | apply Drawn0.step)⟩

end Go.Proofs.YtjopdafckhkmmaaDoor.MBS
