/- Functions of the program as Lean functions, and of each a proof that the Go code comes to just its answers. Laid for this claim by wip/drive.py of this repo (our driver over the kit's printing program); no text of print.sh. No condition. -/
import Derived.Test.YtjopdafckhkmmaaDoorCBSatMBSx0
import Derived.Test.YtjopdafckhkmmaaDoorCBSatMBSx3
import Derived.Test.YtjopdafckhkmmaaDoorCBSatMBSx5
namespace Go.Proofs.YtjopdafckhkmmaaDoor.MBS
open Go.Proofs.YtjopdafckhkmmaaDoor.Zed Go.RowKit Go.Proofs.YtjopdafckhkmmaaDoorW.PrintWords Go.Proofs.YtjopdafckhkmmaaDoorW.PrintLast Go.Proofs.YtjopdafckhkmmaaDoorW.PrintMore
attribute [local go_sem] max2_int min2_int max_two min_two max_three min_three max_four min_four   -- for this text's walks alone
set_option linter.unusedVariables false
set_option linter.unusedSimpArgs false

/-! ### blast_Clauses: function 17 -/
mutual
def blast_Clauses.j0 : Nat → Int → List (List Int) → Bool → List (S44) → List (S49) → List Int → Option (Int × (List (List Int)) × Int)
 | 0, _, _, _, _, _, _ => none
 | k + 1, x1, x5, x26, x169000, x169001, x169002 => if x26 = true then (some (0, ([] : List (List Int)), 2)) else (if (wrap64 ((wrap64 (1 + (x169000.length : Int))) + (x169001.length : Int))) > 5000 then (some (0, ([] : List (List Int)), 4)) else (if x5.length < 5864062014805 then (blast_Clauses.l0 k x1 (wrap64 ((wrap64 (1 + (x169000.length : Int))) + (x169001.length : Int))) (x5 ++ [(([(-1)] : List Int))]) x169001 (x169001.length : Int) 0 x169000 x169001 x169002) else (none)))
def blast_Clauses.l0 : Nat → Int → Int → List (List Int) → List (S49) → Int → Int → List (S44) → List (S49) → List Int → Option (Int × (List (List Int)) × Int)
 | 0, _, _, _, _, _, _, _, _, _ => none
 | k + 1, x1, x4, x5, x42, x43, x44, x169000, x169001, x169002 => if x44 < x43 then (if 0 ≤ x44 then (if x44 < (x42.length : Int) then ((blast_literal.f ((rd_T49 x42 x44).f0)).bind fun t178 => ((blast_literal.f ((rd_T49 x42 x44).f1)).bind fun t179 => ((some (([(([wrap64 (-(wrap64 ((wrap64 (2 + (x169000.length : Int))) + x44))), t178] : List Int)), (([wrap64 (-(wrap64 ((wrap64 (2 + (x169000.length : Int))) + x44))), t179] : List Int)), (([wrap64 ((wrap64 (2 + (x169000.length : Int))) + x44), wrap64 (-t178), wrap64 (-t179)] : List Int))] : List (List Int)) : List (List Int))).bind fun y189 => (if x5.length + y189.length < 5864062014805 then (blast_Clauses.l0 k x1 x4 (x5 ++ y189) x42 x43 (wrap64 (x44 + 1)) x169000 x169001 x169002) else (none))))) else (none)) else (none)) else (if 0 ≤ x1 then (if x1 < (x169002.length : Int) then ((blast_literal.f (rd x169002 x1)).bind fun t196 => (if x5.length < 5864062014805 then (some (x4, (x5 ++ [(([t196] : List Int))]), 0)) else (none))) else (none)) else (none))
end
def blast_Clauses.f (k : Nat) (l0_0 : List (S44)) (l0_1 : List (S49)) (l0_2 : List Int) (a1 : Int) : Option (Int × (List (List Int)) × Int) := (blast_Check.f k l0_0 l0_1 l0_2).bind fun t169 => (if t169 = 0 then (if a1 < 0 then (blast_Clauses.j0 k a1 ([] : List (List Int)) true l0_0 l0_1 l0_2) else (blast_Clauses.j0 k a1 ([] : List (List Int)) (decide (a1 ≥ (l0_2.length : Int))) l0_0 l0_1 l0_2)) else (some (0, ([] : List (List Int)), t169)))
theorem blast_Clauses.mono_l : ∀ k, (∀ y0 y1 y2 y3 y4 y5, LeO (blast_Clauses.j0 k y0 y1 y2 y3 y4 y5) (blast_Clauses.j0 (k + 1) y0 y1 y2 y3 y4 y5)) ∧ (∀ y0 y1 y2 y3 y4 y5 y6 y7 y8, LeO (blast_Clauses.l0 k y0 y1 y2 y3 y4 y5 y6 y7 y8) (blast_Clauses.l0 (k + 1) y0 y1 y2 y3 y4 y5 y6 y7 y8))
 | 0 => ⟨fun _ _ _ _ _ _ r h => by simp [blast_Clauses.j0] at h, fun _ _ _ _ _ _ _ _ _ r h => by simp [blast_Clauses.l0] at h⟩
 | k + 1 => by
  obtain ⟨ih0, ih1⟩ := blast_Clauses.mono_l k
  refine ⟨?_, ?_⟩
  ·intro y0 y1 y2 y3 y4 y5
   unfold blast_Clauses.j0
   repeat' first
   | (with_reducible exact ih0 _ _ _ _ _ _)
   | (with_reducible exact ih1 _ _ _ _ _ _ _ _ _)
   | (with_reducible exact blast_Check.mono _ _ _ _)
   | (with_reducible exact LeO.refl _)
   | (with_reducible exact LeO.none _)
   | (with_reducible refine LeO.ite ?_ ?_)
   | (with_reducible refine LeO.bind ?_ (fun _ => ?_))
   | exact ih0 _ _ _ _ _ _
   | exact ih1 _ _ _ _ _ _ _ _ _
   | exact blast_Check.mono _ _ _ _
   | exact LeO.none _
   | refine LeO.ite ?_ ?_
   | refine LeO.bind ?_ (fun _ => ?_)
  ·intro y0 y1 y2 y3 y4 y5 y6 y7 y8
   unfold blast_Clauses.l0
   repeat' first
   | (with_reducible exact ih0 _ _ _ _ _ _)
   | (with_reducible exact ih1 _ _ _ _ _ _ _ _ _)
   | (with_reducible exact blast_Check.mono _ _ _ _)
   | (with_reducible exact LeO.refl _)
   | (with_reducible exact LeO.none _)
   | (with_reducible refine LeO.ite ?_ ?_)
   | (with_reducible refine LeO.bind ?_ (fun _ => ?_))
   | exact ih0 _ _ _ _ _ _
   | exact ih1 _ _ _ _ _ _ _ _ _
   | exact blast_Check.mono _ _ _ _
   | exact LeO.none _
   | refine LeO.ite ?_ ?_
   | refine LeO.bind ?_ (fun _ => ?_)
theorem blast_Clauses.mono : ∀ a0 a1 a2 a3 k, LeO (blast_Clauses.f k a0 a1 a2 a3) (blast_Clauses.f (k + 1) a0 a1 a2 a3) := by
 intro a0 a1 a2 a3 k
 obtain ⟨ih0, ih1⟩ := blast_Clauses.mono_l k
 unfold blast_Clauses.f
 repeat' first
   | (with_reducible exact ih0 _ _ _ _ _ _)
   | (with_reducible exact ih1 _ _ _ _ _ _ _ _ _)
   | (with_reducible exact blast_Check.mono _ _ _ _)
   | (with_reducible exact LeO.refl _)
   | (with_reducible exact LeO.none _)
   | (with_reducible refine LeO.ite ?_ ?_)
   | (with_reducible refine LeO.bind ?_ (fun _ => ?_))
   | exact ih0 _ _ _ _ _ _
   | exact ih1 _ _ _ _ _ _ _ _ _
   | exact blast_Check.mono _ _ _ _
   | exact LeO.none _
   | refine LeO.ite ?_ ?_
   | refine LeO.bind ?_ (fun _ => ?_)
set_option maxHeartbeats 8000000 in
set_option maxRecDepth 100000 in
theorem blast_Clauses.calls (k : Nat) (A0_0 : Option Addr) (c0_0 : Nat) (l0_0 : List (S44)) (A0_1 : Option Addr) (c0_1 : Nat) (l0_1 : List (S49)) (A0_2 : Option Addr) (c0_2 : Nat) (l0_2 : List Int) (a1 : Int) (r1 : Int) (r2 : List (List Int)) (r3 : Int) (w : World) (hr0_0 : Kd.C k44 w A0_0 l0_0.length l0_0) (hc0_0 : l0_0.length ≤ c0_0) (hr0_1 : Kd.C k49 w A0_1 l0_1.length l0_1) (hc0_1 : l0_1.length ≤ c0_1) (hr0_2 : Kd.C (Kd.int .i64) w A0_2 l0_2.length l0_2) (hc0_2 : l0_2.length ≤ c0_2) (h : blast_Clauses.f k l0_0 l0_1 l0_2 a1 = some (r1, r2, r3)) :
  Calls Tryd.prog 17 #[.agg #[.slice A0_0 l0_0.length c0_0, .slice A0_1 l0_1.length c0_1, .slice A0_2 l0_2.length c0_2], .int .i64 a1] w fun e w' => ∃ v1_ : Value, e = .returned (.tuple #[.int .i64 r1, v1_, .int .i64 r3]) ∧ Kd.N (Kd.slice 3 (Kd.int .i64)) 30 w' w.heap.size (fun k_ => (w.heap.size ≤ k_)) v1_ r2 ∧ Below w.heap.size w w' := by
 have hu32 := Tryd.underlying32
 have hu49 := Tryd.underlying49
 have HR0_0 := Aside0.mk hr0_0
 have HC0_0 := Aside0.mk hc0_0
 clear hr0_0 hc0_0
 have HR0_1 := Aside0.mk hr0_1
 have HC0_1 := Aside0.mk hc0_1
 clear hr0_1 hc0_1
 have HR0_2 := Aside0.mk hr0_2
 have HC0_2 := Aside0.mk hc0_2
 clear hr0_2 hc0_2
 have HB := Aside0.mk (Below.refl w.heap.size w)
 have H : ((blast_Check.f k l0_0 l0_1 l0_2).bind fun t169 => (if t169 = 0 then (if a1 < 0 then (blast_Clauses.j0 k a1 ([] : List (List Int)) true l0_0 l0_1 l0_2) else (blast_Clauses.j0 k a1 ([] : List (List Int)) (decide (a1 ≥ (l0_2.length : Int))) l0_0 l0_1 l0_2)) else (some (0, ([] : List (List Int)), t169)))) = some (r1, r2, r3) := h
 clear h
 replace H := Option.bind_eq_some_iff.mp H
 obtain ⟨t169, A30, H⟩ := H
 replace H : (if t169 = 0 then (if a1 < 0 then (blast_Clauses.j0 k a1 ([] : List (List Int)) true l0_0 l0_1 l0_2) else (blast_Clauses.j0 k a1 ([] : List (List Int)) (decide (a1 ≥ (l0_2.length : Int))) l0_0 l0_1 l0_2)) else (some (0, ([] : List (List Int)), t169))) = some (r1, r2, r3) := H
 have A3 := Aside0.mk A30
 clear A30
 by_cases c4 : t169 = 0
 ·rw [if_pos c4] at H
  have c4b0 : (t169 == 0) = true := beq_iff_eq.mpr c4
  have c4b1 : (t169 != 0) = false := bne_eq_false_iff_eq.mpr c4
  clear c4
  have HC5 := Aside0.mk H
  clear H
  go_enter Tryd.func17, Tryd.ntmps17
  go_upto_region 4 with (first | ((with_reducible refine gate_dst (N := 2) rfl ?_); (try (refine gate_guard (by rfl) ?_; dsimp only)); refine box_event ?hg (N := 2) ?hd (cs := #[.slice A0_0 l0_0.length c0_0, .slice A0_1 l0_1.length c0_1, .slice A0_2 l0_2.length c0_2]) (t := 32) ?hr ?_; (case hd => rfl); (case hg => rfl); (case hr => first | (go_simp; done) | (go_simp; rfl)); intro gb168 hg w6 hbox hb; have n0_ := Aside0.mk (below_step q0_ hb); have n1_ := Aside0.mk (hbox); have n2_ := Aside0.mk ((by rw [hg]; exact (below_size q0_) : w.heap.size ≤ gb168)); have n3_ := Aside0.mk ((by rw [hg]; exact (below_size q0_) : w.heap.size ≤ gb168)); clear HB; have HB := n0_; have BK168 := n1_; have GW168 := n2_; have GE168 := n3_; clear n0_ n1_ n2_ n3_; clear hb hbox hg; have hcz7_0 : w6.cell? ⟨gb168, 0, none⟩ = some (.slice A0_0 l0_0.length c0_0) := (blk_cell BK168.out 0).trans rfl; have hcz7_1 : w6.cell? ⟨gb168, 1, none⟩ = some (.slice A0_1 l0_1.length c0_1) := (blk_cell BK168.out 1).trans rfl; have hcz7_2 : w6.cell? ⟨gb168, 2, none⟩ = some (.slice A0_2 l0_2.length c0_2) := (blk_cell BK168.out 2).trans rfl; have hfz7_0 := blk_frozen BK168.out 0; have hfz7_1 := blk_frozen BK168.out 1; have hfz7_2 := blk_frozen BK168.out 2) | (go_at_call 12; (with_reducible refine (blast_Check.calls k _ _ l0_0 _ _ l0_1 _ _ l0_2 t169 _ ?side1 ?side2 ?side3 ?side4 ?side5 ?side6 A3.out).mono ?_); (case side1 => repeat (first | exact (Kd.C_below HR0_0.out HB.out) | (with_reducible refine Kd.C_alloc ?_ _) | (with_reducible refine Kd.C_drewN ?_ _) | (with_reducible refine Kd.C_drew ?_))); (case side2 => exact HC0_0.out); (case side3 => repeat (first | exact (Kd.C_below HR0_1.out HB.out) | (with_reducible refine Kd.C_alloc ?_ _) | (with_reducible refine Kd.C_drewN ?_ _) | (with_reducible refine Kd.C_drew ?_))); (case side4 => exact HC0_1.out); (case side5 => repeat (first | exact (Kd.C_below HR0_2.out HB.out) | (with_reducible refine Kd.C_alloc ?_ _) | (with_reducible refine Kd.C_drewN ?_ _) | (with_reducible refine Kd.C_drew ?_))); (case side6 => exact HC0_2.out); rintro e w8 ⟨rfl, hb⟩; have n0_ := Aside0.mk (blk_below (g := gb168) (o := .cells #[.slice A0_0 l0_0.length c0_0, .slice A0_1 l0_1.length c0_1, .slice A0_2 l0_2.length c0_2] 32 (0, 0)) q4_ hb); have n1_ := Aside0.mk (below_step q3_ hb); clear BK168; clear HB; have BK168 := n0_; have HB := n1_; clear n0_ n1_; (try clear hb); (try clear hb2); (try clear hk); (try clear hi)))
  repeat (go_quiet (first | ((with_reducible refine gate_dst (N := 2) rfl ?_); (try (refine gate_guard (by rfl) ?_; dsimp only)); refine box_event ?hg (N := 2) ?hd (cs := #[.slice A0_0 l0_0.length c0_0, .slice A0_1 l0_1.length c0_1, .slice A0_2 l0_2.length c0_2]) (t := 32) ?hr ?_; (case hd => rfl); (case hg => rfl); (case hr => first | (go_simp; done) | (go_simp; rfl)); intro gb168 hg w6 hbox hb; have n0_ := Aside0.mk (below_step q0_ hb); have n1_ := Aside0.mk (hbox); have n2_ := Aside0.mk ((by rw [hg]; exact (below_size q0_) : w.heap.size ≤ gb168)); have n3_ := Aside0.mk ((by rw [hg]; exact (below_size q0_) : w.heap.size ≤ gb168)); clear HB; have HB := n0_; have BK168 := n1_; have GW168 := n2_; have GE168 := n3_; clear n0_ n1_ n2_ n3_; clear hb hbox hg; have hcz7_0 : w6.cell? ⟨gb168, 0, none⟩ = some (.slice A0_0 l0_0.length c0_0) := (blk_cell BK168.out 0).trans rfl; have hcz7_1 : w6.cell? ⟨gb168, 1, none⟩ = some (.slice A0_1 l0_1.length c0_1) := (blk_cell BK168.out 1).trans rfl; have hcz7_2 : w6.cell? ⟨gb168, 2, none⟩ = some (.slice A0_2 l0_2.length c0_2) := (blk_cell BK168.out 2).trans rfl; have hfz7_0 := blk_frozen BK168.out 0; have hfz7_1 := blk_frozen BK168.out 1; have hfz7_2 := blk_frozen BK168.out 2) | (go_at_call 12; (with_reducible refine (blast_Check.calls k _ _ l0_0 _ _ l0_1 _ _ l0_2 t169 _ ?side1 ?side2 ?side3 ?side4 ?side5 ?side6 A3.out).mono ?_); (case side1 => repeat (first | exact (Kd.C_below HR0_0.out HB.out) | (with_reducible refine Kd.C_alloc ?_ _) | (with_reducible refine Kd.C_drewN ?_ _) | (with_reducible refine Kd.C_drew ?_))); (case side2 => exact HC0_0.out); (case side3 => repeat (first | exact (Kd.C_below HR0_1.out HB.out) | (with_reducible refine Kd.C_alloc ?_ _) | (with_reducible refine Kd.C_drewN ?_ _) | (with_reducible refine Kd.C_drew ?_))); (case side4 => exact HC0_1.out); (case side5 => repeat (first | exact (Kd.C_below HR0_2.out HB.out) | (with_reducible refine Kd.C_alloc ?_ _) | (with_reducible refine Kd.C_drewN ?_ _) | (with_reducible refine Kd.C_drew ?_))); (case side6 => exact HC0_2.out); rintro e w8 ⟨rfl, hb⟩; have n0_ := Aside0.mk (blk_below (g := gb168) (o := .cells #[.slice A0_0 l0_0.length c0_0, .slice A0_1 l0_1.length c0_1, .slice A0_2 l0_2.length c0_2] 32 (0, 0)) q4_ hb); have n1_ := Aside0.mk (below_step q3_ hb); clear BK168; clear HB; have BK168 := n0_; have HB := n1_; clear n0_ n1_; (try clear hb); (try clear hb2); (try clear hk); (try clear hi))); go_upto_region 4 with (first | ((with_reducible refine gate_dst (N := 2) rfl ?_); (try (refine gate_guard (by rfl) ?_; dsimp only)); refine box_event ?hg (N := 2) ?hd (cs := #[.slice A0_0 l0_0.length c0_0, .slice A0_1 l0_1.length c0_1, .slice A0_2 l0_2.length c0_2]) (t := 32) ?hr ?_; (case hd => rfl); (case hg => rfl); (case hr => first | (go_simp; done) | (go_simp; rfl)); intro gb168 hg w6 hbox hb; have n0_ := Aside0.mk (below_step q0_ hb); have n1_ := Aside0.mk (hbox); have n2_ := Aside0.mk ((by rw [hg]; exact (below_size q0_) : w.heap.size ≤ gb168)); have n3_ := Aside0.mk ((by rw [hg]; exact (below_size q0_) : w.heap.size ≤ gb168)); clear HB; have HB := n0_; have BK168 := n1_; have GW168 := n2_; have GE168 := n3_; clear n0_ n1_ n2_ n3_; clear hb hbox hg; have hcz7_0 : w6.cell? ⟨gb168, 0, none⟩ = some (.slice A0_0 l0_0.length c0_0) := (blk_cell BK168.out 0).trans rfl; have hcz7_1 : w6.cell? ⟨gb168, 1, none⟩ = some (.slice A0_1 l0_1.length c0_1) := (blk_cell BK168.out 1).trans rfl; have hcz7_2 : w6.cell? ⟨gb168, 2, none⟩ = some (.slice A0_2 l0_2.length c0_2) := (blk_cell BK168.out 2).trans rfl; have hfz7_0 := blk_frozen BK168.out 0; have hfz7_1 := blk_frozen BK168.out 1; have hfz7_2 := blk_frozen BK168.out 2) | (go_at_call 12; (with_reducible refine (blast_Check.calls k _ _ l0_0 _ _ l0_1 _ _ l0_2 t169 _ ?side1 ?side2 ?side3 ?side4 ?side5 ?side6 A3.out).mono ?_); (case side1 => repeat (first | exact (Kd.C_below HR0_0.out HB.out) | (with_reducible refine Kd.C_alloc ?_ _) | (with_reducible refine Kd.C_drewN ?_ _) | (with_reducible refine Kd.C_drew ?_))); (case side2 => exact HC0_0.out); (case side3 => repeat (first | exact (Kd.C_below HR0_1.out HB.out) | (with_reducible refine Kd.C_alloc ?_ _) | (with_reducible refine Kd.C_drewN ?_ _) | (with_reducible refine Kd.C_drew ?_))); (case side4 => exact HC0_1.out); (case side5 => repeat (first | exact (Kd.C_below HR0_2.out HB.out) | (with_reducible refine Kd.C_alloc ?_ _) | (with_reducible refine Kd.C_drewN ?_ _) | (with_reducible refine Kd.C_drew ?_))); (case side6 => exact HC0_2.out); rintro e w8 ⟨rfl, hb⟩; have n0_ := Aside0.mk (blk_below (g := gb168) (o := .cells #[.slice A0_0 l0_0.length c0_0, .slice A0_1 l0_1.length c0_1, .slice A0_2 l0_2.length c0_2] 32 (0, 0)) q4_ hb); have n1_ := Aside0.mk (below_step q3_ hb); clear BK168; clear HB; have BK168 := n0_; have HB := n1_; clear n0_ n1_; (try clear hb); (try clear hb2); (try clear hk); (try clear hi))))
  (try simp only [Act.put, List.setIfInBounds_toArray, List.set_cons_zero, List.set_cons_succ])
  go_cut [26] (fun v26 wc => ∃ (kq : Nat) (x26_4 : Bool), v26 = .bool x26_4 ∧ Aside0 (blast_Clauses.j0 kq a1 ([] : List (List Int)) x26_4 l0_0 l0_1 l0_2 = some (r1, r2, r3)) ∧ Aside0 (kq ≤ k) ∧ Aside0 (Kd.N (Kd.slice 3 (Kd.int .i64)) 30 wc w.heap.size (fun k_ => (w.heap.size ≤ k_) ∧ k_ ≠ gb168) (.slice none 0 0) ([] : List (List Int))) ∧ Aside0 (wc.heap[gb168]? = some (.cells #[(.slice A0_0 l0_0.length c0_0), (.slice A0_1 l0_1.length c0_1), (.slice A0_2 l0_2.length c0_2)] 32 (0, 0))) ∧ Aside0 (Below w.heap.size w wc))
  case first =>
   have H := HC5.out
   clear HC5
   by_cases c9 : a1 < 0
   ·rw [if_pos c9] at H
    have c9b0 : decide (a1 < 0) = true := decide_eq_true c9
    clear c9
    (first | rw [c9b0] | (simp only [i64_w, i32_w]; rw [c9b0]) | skip)
    have H' := Aside0.mk H
    clear H
    go_wp2
    repeat (go_quiet (fail); try go_wp2)
    go_meet
    case rel => exact ⟨_, (true), q10_, H', ⟨by first | omega | exact Nat.le_refl _⟩, ⟨by first | exact Kd.S_nil _ _ _ _ _ | exact Kd.N_nil _ _ _ _ _ | exact Kd.V_nil _ _ _ _ _ | exact Kd.Q_nil _ _ _ _ _ | exact Kd.R_nil _ _ _ _ _⟩, ⟨by (with_reducible repeat (first | refine blk_drewN ?_ _ | refine blk_drew ?_ | refine blk_alloc ?_ _)); exact BK168.out⟩, ⟨by repeat (first | (with_reducible first | exact HB.out | apply below_alloc | apply pw_below_drewN | apply below_drew1 | refine below_set ?_ GE168.out) | exact HB.out)⟩⟩
   ·rw [if_neg c9] at H
    have c9b0 : decide (a1 < 0) = false := decide_eq_false c9
    clear c9
    (first | rw [c9b0] | (simp only [i64_w, i32_w]; rw [c9b0]) | skip)
    have H' := Aside0.mk H
    clear H
    have hcz10_0 : w8.cell? ⟨gb168, 0, none⟩ = some (.slice A0_0 l0_0.length c0_0) := (blk_cell BK168.out 0).trans rfl
    have hcz10_1 : w8.cell? ⟨gb168, 1, none⟩ = some (.slice A0_1 l0_1.length c0_1) := (blk_cell BK168.out 1).trans rfl
    have hcz10_2 : w8.cell? ⟨gb168, 2, none⟩ = some (.slice A0_2 l0_2.length c0_2) := (blk_cell BK168.out 2).trans rfl
    have hfz10_0 := blk_frozen BK168.out 0
    have hfz10_1 := blk_frozen BK168.out 1
    have hfz10_2 := blk_frozen BK168.out 2
    go_wp2
    repeat (go_quiet (fail); try go_wp2)
    go_meet
    case rel => exact ⟨_, (decide (a1 ≥ (l0_2.length : Int))), q10_, H', ⟨by first | omega | exact Nat.le_refl _⟩, ⟨by first | exact Kd.S_nil _ _ _ _ _ | exact Kd.N_nil _ _ _ _ _ | exact Kd.V_nil _ _ _ _ _ | exact Kd.Q_nil _ _ _ _ _ | exact Kd.R_nil _ _ _ _ _⟩, ⟨by (with_reducible repeat (first | refine blk_drewN ?_ _ | refine blk_drew ?_ | refine blk_alloc ?_ _)); exact BK168.out⟩, ⟨by repeat (first | (with_reducible first | exact HB.out | apply below_alloc | apply pw_below_drewN | apply below_drew1 | refine below_set ?_ GE168.out) | exact HB.out)⟩⟩
  case rest =>
   clear HC5
   try clear c1
   try clear p2
   try clear c4
   try clear c4b0
   try clear c4b1
   try clear c9
   try clear c9b0
   try clear hcz10_0
   try clear hcz10_1
   try clear hcz10_2
   try clear hcz7_0
   try clear hcz7_1
   try clear hcz7_2
   try clear hfz10_0
   try clear hfz10_1
   try clear hfz10_2
   try clear hfz7_0
   try clear hfz7_1
   try clear hfz7_2
   obtain ⟨kq, x26_4, rfl, HA, HJ4, HO_5, BK168, HB⟩ := hcut
   cases kq with
   | zero => exact absurd HA.out (by simp [blast_Clauses.j0])
   | succ kj4 =>
    have H := HA.out
    clear HA
    simp only [blast_Clauses.j0] at H
    by_cases c11 : x26_4 = true
    ·subst c11
     have H1 : (some (0, ([] : List (List Int)), 2)) = some (r1, r2, r3) := by rw [if_pos rfl] at H; exact H
     clear H
     have H := H1
     clear H1
     simp only [Option.some.injEq, Prod.mk.injEq] at H
     obtain ⟨rfl, rfl, rfl⟩ := H
     go_wp2
     repeat (go_quiet (fail); try go_wp2)
     go_ret3
     exact ⟨_, by first | rfl | (simp [errW_none, errW_some] <;> rfl) | (simp [*, errW_none, errW_some] <;> rfl), by first | exact Kd.S_nil _ _ _ _ _ | exact Kd.N_nil _ _ _ _ _ | exact Kd.V_nil _ _ _ _ _ | exact Kd.Q_nil _ _ _ _ _ | exact Kd.R_nil _ _ _ _ _, by repeat (first | (with_reducible first | exact HB.out | apply below_alloc | apply pw_below_drewN | apply below_drew1 | refine below_set ?_ GE168.out) | exact HB.out)⟩
    ·replace c11 := Bool.eq_false_iff.mpr c11
     subst c11
     have H1 : (if (wrap64 ((wrap64 (1 + (l0_0.length : Int))) + (l0_1.length : Int))) > 5000 then (some (0, ([] : List (List Int)), 4)) else (if ([] : List (List Int)).length < 5864062014805 then (blast_Clauses.l0 kj4 a1 (wrap64 ((wrap64 (1 + (l0_0.length : Int))) + (l0_1.length : Int))) (([] : List (List Int)) ++ [(([(-1)] : List Int))]) l0_1 (l0_1.length : Int) 0 l0_0 l0_1 l0_2) else (none))) = some (r1, r2, r3) := by rw [if_neg (show ¬ (false = true) by decide)] at H; exact H
     clear H
     have H := H1
     clear H1
     by_cases c12 : (wrap64 ((wrap64 (1 + (l0_0.length : Int))) + (l0_1.length : Int))) > 5000
     ·rw [if_pos c12] at H
      have c12b0 : decide (5000 < (wrap64 ((wrap64 (1 + (l0_0.length : Int))) + (l0_1.length : Int)))) = true := decide_eq_true c12
      clear c12
      simp only [Option.some.injEq, Prod.mk.injEq] at H
      obtain ⟨rfl, rfl, rfl⟩ := H
      have hcz13_0 : wc.cell? ⟨gb168, 0, none⟩ = some (.slice A0_0 l0_0.length c0_0) := (blk_cell BK168.out 0).trans rfl
      have hcz13_1 : wc.cell? ⟨gb168, 1, none⟩ = some (.slice A0_1 l0_1.length c0_1) := (blk_cell BK168.out 1).trans rfl
      have hcz13_2 : wc.cell? ⟨gb168, 2, none⟩ = some (.slice A0_2 l0_2.length c0_2) := (blk_cell BK168.out 2).trans rfl
      have hfz13_0 := blk_frozen BK168.out 0
      have hfz13_1 := blk_frozen BK168.out 1
      have hfz13_2 := blk_frozen BK168.out 2
      go_wp2
      repeat (go_quiet (fail); try go_wp2)
      go_ret3
      exact ⟨_, by first | rfl | (simp [errW_none, errW_some] <;> rfl) | (simp [*, errW_none, errW_some] <;> rfl), by first | exact Kd.S_nil _ _ _ _ _ | exact Kd.N_nil _ _ _ _ _ | exact Kd.V_nil _ _ _ _ _ | exact Kd.Q_nil _ _ _ _ _ | exact Kd.R_nil _ _ _ _ _, by repeat (first | (with_reducible first | exact HB.out | apply below_alloc | apply pw_below_drewN | apply below_drew1 | refine below_set ?_ GE168.out) | exact HB.out)⟩
     ·rw [if_neg c12] at H
      have c12b0 : decide (5000 < (wrap64 ((wrap64 (1 + (l0_0.length : Int))) + (l0_1.length : Int)))) = false := decide_eq_false c12
      clear c12
      obtain ⟨y170, hy170⟩ : ∃ y_ : List Int, y_ = (([(-1)] : List Int)) := ⟨_, rfl⟩
      replace H : (if ([] : List (List Int)).length < 5864062014805 then (blast_Clauses.l0 kj4 a1 (wrap64 ((wrap64 (1 + (l0_0.length : Int))) + (l0_1.length : Int))) (([] : List (List Int)) ++ [y170]) l0_1 (l0_1.length : Int) 0 l0_0 l0_1 l0_2) else (none)) = some (r1, r2, r3) := by first | (rw [hy170]; with_reducible exact H) | (have H2_ := (Option.bind_some _ _).symm.trans H; rw [hy170]; with_reducible exact H2_) | (have H2_ := (Option.bind_some _ _).symm.trans H; with_reducible exact H2_) | with_reducible exact H | (rw [hy170]; exact H) | exact H
      have Ny170 := Aside0.mk hy170
      clear hy170
      by_cases c14 : ([] : List (List Int)).length < 5864062014805
      ·rw [if_pos c14] at H
       have LMc14 := Aside0.mk c14
       clear c14
       obtain ⟨y173, hy173⟩ : ∃ y_ : List (List Int), y_ = (([] : List (List Int)) ++ [y170]) := ⟨_, rfl⟩
       replace H : (blast_Clauses.l0 kj4 a1 (wrap64 ((wrap64 (1 + (l0_0.length : Int))) + (l0_1.length : Int))) y173 l0_1 (l0_1.length : Int) 0 l0_0 l0_1 l0_2) = some (r1, r2, r3) := by first | (rw [hy173]; with_reducible exact H) | (have H2_ := (Option.bind_some _ _).symm.trans H; rw [hy173]; with_reducible exact H2_) | (have H2_ := (Option.bind_some _ _).symm.trans H; with_reducible exact H2_) | with_reducible exact H | (rw [hy173]; exact H) | exact H
       have Ny173 := Aside0.mk hy173
       clear hy173
       have H' := Aside0.mk H
       clear H
       have hcz15_0 : wc.cell? ⟨gb168, 0, none⟩ = some (.slice A0_0 l0_0.length c0_0) := (blk_cell BK168.out 0).trans rfl
       have hcz15_1 : wc.cell? ⟨gb168, 1, none⟩ = some (.slice A0_1 l0_1.length c0_1) := (blk_cell BK168.out 1).trans rfl
       have hcz15_2 : wc.cell? ⟨gb168, 2, none⟩ = some (.slice A0_2 l0_2.length c0_2) := (blk_cell BK168.out 2).trans rfl
       have hfz15_0 := blk_frozen BK168.out 0
       have hfz15_1 := blk_frozen BK168.out 1
       have hfz15_2 := blk_frozen BK168.out 2
       go_wp2_with (first | ((with_reducible refine gate_dst (N := 38) rfl ?_); (try (refine gate_guard (by rfl) ?_; dsimp only)); refine Kd.R_lit (Kd.int .i64) _ 3 ?hg (N := 38) ?hd (xs := ([(-1)] : List Int)) (inner := [.int .i64 (-1)]) (ok := fun _ => True) (okp := fun _ => True) ?hr ?hp (fun _ hk => hk) trivial (Below.refl _ _) (Nat.le_refl _) (by simp) ?_; (case hd => rfl); (case hg => rfl); (case hr => first | (go_simp; done) | (go_simp; rfl)); (case hp => exact (Reps.one (show Kd.M (Kd.int .i64) _ _ _ (-1) [.int .i64 (-1)] from rfl) (Reps.none _ _))); intro v171 w16 ho17 hb hg_ hnew_; clear hg_ hnew_; (first | rw [← Ny170.out] at ho17 | (simp only [Int.reduceToNat] at ho17; rw [← Ny170.out] at ho17)); have n0_ := Aside0.mk (Kd.N_elder' q15_ (Kd.R_base ho17) hb); have n1_ := Aside0.mk (Kd.R_lower (Kd.R_newM (M := fun k_ => (w.heap.size ≤ k_)) ho17 (below_size q3_) (fun k_ h_ => h_)) (below_size q3_)); have n2_ := Aside0.mk (blk_below (g := gb168) (o := .cells #[.slice A0_0 l0_0.length c0_0, .slice A0_1 l0_1.length c0_1, .slice A0_2 l0_2.length c0_2] 32 (0, 0)) q4_ hb); have n3_ := Aside0.mk (below_step q3_ hb); clear HO_5; clear BK168; clear HB; have HO_5 := n0_; have HO172 := n1_; have BK168 := n2_; have HB := n3_; clear n0_ n1_ n2_ n3_; clear hb ho17; obtain ⟨Ao19, co19, eo19⟩ := Kd.R_slice HO172.out; subst eo19) | ((with_reducible refine gate_builtin (b := .append) (xs := #[.tmp 37, .tmp 39]) rfl ?_); (try (refine gate_guard (by rfl) ?_; dsimp only)); at_builtin; refine Kd.N_append (Kd.slice 3 (Kd.int .i64)) (w0 := w) w.heap.size rfl (.tmp 37) (.tmp 39) 54 30 (.slice none 0 0) 24 rfl Tryd.underlying54 info30 rfl q33_ q29_ (.slice none 0 0) ([] : List (List Int)) y170 [.slice Ao19 y170.length co19] (fun k_ => (w.heap.size ≤ k_) ∧ k_ ≠ gb168) (fun k_ => ((fun k_ => (w.heap.size ≤ k_) ∧ k_ ≠ gb168)) k_ ∧ some k_ ≠ (.slice none 0 0 : Value).ownBlock) rfl rfl ?aP (fun _ hk => hk) ?aF ?aO ?aB ?aS ?aL ?_; (case aP => exact (Kd.FK_slice_mk (Kd.R_reads' (Kd.R_mono (ok' := (fun k_ => ((fun k_ => (w.heap.size ≤ k_) ∧ k_ ≠ gb168)) k_ ∧ some k_ ≠ (.slice none 0 0 : Value).ownBlock)) (Kd.R_types (Kd.R_apart' (HO172.out) (Kd.N_typed HO_5.out) q33_) BK168.out q33_) (fun k_ hk => ⟨⟨hk.1.1.1, hk.2⟩, hk.1.2⟩))).2.1 (Kd.R_F (Kd.R_mono (ok' := (fun k_ => ((fun k_ => (w.heap.size ≤ k_) ∧ k_ ≠ gb168)) k_ ∧ some k_ ≠ (.slice none 0 0 : Value).ownBlock)) (Kd.R_types (Kd.R_apart' (HO172.out) (Kd.N_typed HO_5.out) q33_) BK168.out q33_) (fun k_ hk => ⟨⟨hk.1.1.1, hk.2⟩, hk.1.2⟩))))); (case aB => exact q3_); (case aF => exact (fun k_ hk => ⟨(Nat.le_trans (below_size q3_) hk), Kd.freshB (g := gb168) (o := .cells #[.slice A0_0 l0_0.length c0_0, .slice A0_1 l0_1.length c0_1, .slice A0_2 l0_2.length c0_2] 32 (0, 0)) q4_ k_ hk⟩)); (case aO => exact q35_); (case aS => exact (below_size q3_)); (case aL => have := LMc14.out; omega); intro v174 w18 ho hb hg hat; rw [← Ny173.out] at ho; have n0_ := Aside0.mk (blk_grown (g := gb168) (o := .cells #[.slice A0_0 l0_0.length c0_0, .slice A0_1 l0_1.length c0_1, .slice A0_2 l0_2.length c0_2] 32 (0, 0)) q4_ hg (Kd.N_ne HO_5.out BK168.out q33_)); have n1_ := Aside0.mk (hb); have n2_ := Aside0.mk (ho); clear BK168; clear HB; clear HO_5; clear HO172; have BK168 := n0_; have HB := n1_; have HO175 := n2_; clear n0_ n1_ n2_; clear ho hb hg hat; have hcz20_0 : w18.cell? ⟨gb168, 0, none⟩ = some (.slice A0_0 l0_0.length c0_0) := (blk_cell BK168.out 0).trans rfl; have hcz20_1 : w18.cell? ⟨gb168, 1, none⟩ = some (.slice A0_1 l0_1.length c0_1) := (blk_cell BK168.out 1).trans rfl; have hcz20_2 : w18.cell? ⟨gb168, 2, none⟩ = some (.slice A0_2 l0_2.length c0_2) := (blk_cell BK168.out 2).trans rfl; have hfz20_0 := blk_frozen BK168.out 0; have hfz20_1 := blk_frozen BK168.out 1; have hfz20_2 := blk_frozen BK168.out 2))
       repeat (go_quiet (first | ((with_reducible refine gate_dst (N := 38) rfl ?_); (try (refine gate_guard (by rfl) ?_; dsimp only)); refine Kd.R_lit (Kd.int .i64) _ 3 ?hg (N := 38) ?hd (xs := ([(-1)] : List Int)) (inner := [.int .i64 (-1)]) (ok := fun _ => True) (okp := fun _ => True) ?hr ?hp (fun _ hk => hk) trivial (Below.refl _ _) (Nat.le_refl _) (by simp) ?_; (case hd => rfl); (case hg => rfl); (case hr => first | (go_simp; done) | (go_simp; rfl)); (case hp => exact (Reps.one (show Kd.M (Kd.int .i64) _ _ _ (-1) [.int .i64 (-1)] from rfl) (Reps.none _ _))); intro v171 w16 ho17 hb hg_ hnew_; clear hg_ hnew_; (first | rw [← Ny170.out] at ho17 | (simp only [Int.reduceToNat] at ho17; rw [← Ny170.out] at ho17)); have n0_ := Aside0.mk (Kd.N_elder' q15_ (Kd.R_base ho17) hb); have n1_ := Aside0.mk (Kd.R_lower (Kd.R_newM (M := fun k_ => (w.heap.size ≤ k_)) ho17 (below_size q3_) (fun k_ h_ => h_)) (below_size q3_)); have n2_ := Aside0.mk (blk_below (g := gb168) (o := .cells #[.slice A0_0 l0_0.length c0_0, .slice A0_1 l0_1.length c0_1, .slice A0_2 l0_2.length c0_2] 32 (0, 0)) q4_ hb); have n3_ := Aside0.mk (below_step q3_ hb); clear HO_5; clear BK168; clear HB; have HO_5 := n0_; have HO172 := n1_; have BK168 := n2_; have HB := n3_; clear n0_ n1_ n2_ n3_; clear hb ho17; obtain ⟨Ao19, co19, eo19⟩ := Kd.R_slice HO172.out; subst eo19) | ((with_reducible refine gate_builtin (b := .append) (xs := #[.tmp 37, .tmp 39]) rfl ?_); (try (refine gate_guard (by rfl) ?_; dsimp only)); at_builtin; refine Kd.N_append (Kd.slice 3 (Kd.int .i64)) (w0 := w) w.heap.size rfl (.tmp 37) (.tmp 39) 54 30 (.slice none 0 0) 24 rfl Tryd.underlying54 info30 rfl q33_ q29_ (.slice none 0 0) ([] : List (List Int)) y170 [.slice Ao19 y170.length co19] (fun k_ => (w.heap.size ≤ k_) ∧ k_ ≠ gb168) (fun k_ => ((fun k_ => (w.heap.size ≤ k_) ∧ k_ ≠ gb168)) k_ ∧ some k_ ≠ (.slice none 0 0 : Value).ownBlock) rfl rfl ?aP (fun _ hk => hk) ?aF ?aO ?aB ?aS ?aL ?_; (case aP => exact (Kd.FK_slice_mk (Kd.R_reads' (Kd.R_mono (ok' := (fun k_ => ((fun k_ => (w.heap.size ≤ k_) ∧ k_ ≠ gb168)) k_ ∧ some k_ ≠ (.slice none 0 0 : Value).ownBlock)) (Kd.R_types (Kd.R_apart' (HO172.out) (Kd.N_typed HO_5.out) q33_) BK168.out q33_) (fun k_ hk => ⟨⟨hk.1.1.1, hk.2⟩, hk.1.2⟩))).2.1 (Kd.R_F (Kd.R_mono (ok' := (fun k_ => ((fun k_ => (w.heap.size ≤ k_) ∧ k_ ≠ gb168)) k_ ∧ some k_ ≠ (.slice none 0 0 : Value).ownBlock)) (Kd.R_types (Kd.R_apart' (HO172.out) (Kd.N_typed HO_5.out) q33_) BK168.out q33_) (fun k_ hk => ⟨⟨hk.1.1.1, hk.2⟩, hk.1.2⟩))))); (case aB => exact q3_); (case aF => exact (fun k_ hk => ⟨(Nat.le_trans (below_size q3_) hk), Kd.freshB (g := gb168) (o := .cells #[.slice A0_0 l0_0.length c0_0, .slice A0_1 l0_1.length c0_1, .slice A0_2 l0_2.length c0_2] 32 (0, 0)) q4_ k_ hk⟩)); (case aO => exact q35_); (case aS => exact (below_size q3_)); (case aL => have := LMc14.out; omega); intro v174 w18 ho hb hg hat; rw [← Ny173.out] at ho; have n0_ := Aside0.mk (blk_grown (g := gb168) (o := .cells #[.slice A0_0 l0_0.length c0_0, .slice A0_1 l0_1.length c0_1, .slice A0_2 l0_2.length c0_2] 32 (0, 0)) q4_ hg (Kd.N_ne HO_5.out BK168.out q33_)); have n1_ := Aside0.mk (hb); have n2_ := Aside0.mk (ho); clear BK168; clear HB; clear HO_5; clear HO172; have BK168 := n0_; have HB := n1_; have HO175 := n2_; clear n0_ n1_ n2_; clear ho hb hg hat; have hcz20_0 : w18.cell? ⟨gb168, 0, none⟩ = some (.slice A0_0 l0_0.length c0_0) := (blk_cell BK168.out 0).trans rfl; have hcz20_1 : w18.cell? ⟨gb168, 1, none⟩ = some (.slice A0_1 l0_1.length c0_1) := (blk_cell BK168.out 1).trans rfl; have hcz20_2 : w18.cell? ⟨gb168, 2, none⟩ = some (.slice A0_2 l0_2.length c0_2) := (blk_cell BK168.out 2).trans rfl; have hfz20_0 := blk_frozen BK168.out 0; have hfz20_1 := blk_frozen BK168.out 1; have hfz20_2 := blk_frozen BK168.out 2)); try go_wp2_with (first | ((with_reducible refine gate_dst (N := 38) rfl ?_); (try (refine gate_guard (by rfl) ?_; dsimp only)); refine Kd.R_lit (Kd.int .i64) _ 3 ?hg (N := 38) ?hd (xs := ([(-1)] : List Int)) (inner := [.int .i64 (-1)]) (ok := fun _ => True) (okp := fun _ => True) ?hr ?hp (fun _ hk => hk) trivial (Below.refl _ _) (Nat.le_refl _) (by simp) ?_; (case hd => rfl); (case hg => rfl); (case hr => first | (go_simp; done) | (go_simp; rfl)); (case hp => exact (Reps.one (show Kd.M (Kd.int .i64) _ _ _ (-1) [.int .i64 (-1)] from rfl) (Reps.none _ _))); intro v171 w16 ho17 hb hg_ hnew_; clear hg_ hnew_; (first | rw [← Ny170.out] at ho17 | (simp only [Int.reduceToNat] at ho17; rw [← Ny170.out] at ho17)); have n0_ := Aside0.mk (Kd.N_elder' q15_ (Kd.R_base ho17) hb); have n1_ := Aside0.mk (Kd.R_lower (Kd.R_newM (M := fun k_ => (w.heap.size ≤ k_)) ho17 (below_size q3_) (fun k_ h_ => h_)) (below_size q3_)); have n2_ := Aside0.mk (blk_below (g := gb168) (o := .cells #[.slice A0_0 l0_0.length c0_0, .slice A0_1 l0_1.length c0_1, .slice A0_2 l0_2.length c0_2] 32 (0, 0)) q4_ hb); have n3_ := Aside0.mk (below_step q3_ hb); clear HO_5; clear BK168; clear HB; have HO_5 := n0_; have HO172 := n1_; have BK168 := n2_; have HB := n3_; clear n0_ n1_ n2_ n3_; clear hb ho17; obtain ⟨Ao19, co19, eo19⟩ := Kd.R_slice HO172.out; subst eo19) | ((with_reducible refine gate_builtin (b := .append) (xs := #[.tmp 37, .tmp 39]) rfl ?_); (try (refine gate_guard (by rfl) ?_; dsimp only)); at_builtin; refine Kd.N_append (Kd.slice 3 (Kd.int .i64)) (w0 := w) w.heap.size rfl (.tmp 37) (.tmp 39) 54 30 (.slice none 0 0) 24 rfl Tryd.underlying54 info30 rfl q33_ q29_ (.slice none 0 0) ([] : List (List Int)) y170 [.slice Ao19 y170.length co19] (fun k_ => (w.heap.size ≤ k_) ∧ k_ ≠ gb168) (fun k_ => ((fun k_ => (w.heap.size ≤ k_) ∧ k_ ≠ gb168)) k_ ∧ some k_ ≠ (.slice none 0 0 : Value).ownBlock) rfl rfl ?aP (fun _ hk => hk) ?aF ?aO ?aB ?aS ?aL ?_; (case aP => exact (Kd.FK_slice_mk (Kd.R_reads' (Kd.R_mono (ok' := (fun k_ => ((fun k_ => (w.heap.size ≤ k_) ∧ k_ ≠ gb168)) k_ ∧ some k_ ≠ (.slice none 0 0 : Value).ownBlock)) (Kd.R_types (Kd.R_apart' (HO172.out) (Kd.N_typed HO_5.out) q33_) BK168.out q33_) (fun k_ hk => ⟨⟨hk.1.1.1, hk.2⟩, hk.1.2⟩))).2.1 (Kd.R_F (Kd.R_mono (ok' := (fun k_ => ((fun k_ => (w.heap.size ≤ k_) ∧ k_ ≠ gb168)) k_ ∧ some k_ ≠ (.slice none 0 0 : Value).ownBlock)) (Kd.R_types (Kd.R_apart' (HO172.out) (Kd.N_typed HO_5.out) q33_) BK168.out q33_) (fun k_ hk => ⟨⟨hk.1.1.1, hk.2⟩, hk.1.2⟩))))); (case aB => exact q3_); (case aF => exact (fun k_ hk => ⟨(Nat.le_trans (below_size q3_) hk), Kd.freshB (g := gb168) (o := .cells #[.slice A0_0 l0_0.length c0_0, .slice A0_1 l0_1.length c0_1, .slice A0_2 l0_2.length c0_2] 32 (0, 0)) q4_ k_ hk⟩)); (case aO => exact q35_); (case aS => exact (below_size q3_)); (case aL => have := LMc14.out; omega); intro v174 w18 ho hb hg hat; rw [← Ny173.out] at ho; have n0_ := Aside0.mk (blk_grown (g := gb168) (o := .cells #[.slice A0_0 l0_0.length c0_0, .slice A0_1 l0_1.length c0_1, .slice A0_2 l0_2.length c0_2] 32 (0, 0)) q4_ hg (Kd.N_ne HO_5.out BK168.out q33_)); have n1_ := Aside0.mk (hb); have n2_ := Aside0.mk (ho); clear BK168; clear HB; clear HO_5; clear HO172; have BK168 := n0_; have HB := n1_; have HO175 := n2_; clear n0_ n1_ n2_; clear ho hb hg hat; have hcz20_0 : w18.cell? ⟨gb168, 0, none⟩ = some (.slice A0_0 l0_0.length c0_0) := (blk_cell BK168.out 0).trans rfl; have hcz20_1 : w18.cell? ⟨gb168, 1, none⟩ = some (.slice A0_1 l0_1.length c0_1) := (blk_cell BK168.out 1).trans rfl; have hcz20_2 : w18.cell? ⟨gb168, 2, none⟩ = some (.slice A0_2 l0_2.length c0_2) := (blk_cell BK168.out 2).trans rfl; have hfz20_0 := blk_frozen BK168.out 0; have hfz20_1 := blk_frozen BK168.out 1; have hfz20_2 := blk_frozen BK168.out 2)))
       go_loopg [5, 44] kj4 (fun kq v5 v44 w' => ∃ (x5_2 : List (List Int)) (x44_2 : Int), v44 = .int .i64 x44_2 ∧ Aside0 (blast_Clauses.l0 kq a1 (wrap64 ((wrap64 (1 + (l0_0.length : Int))) + (l0_1.length : Int))) x5_2 l0_1 (l0_1.length : Int) x44_2 l0_0 l0_1 l0_2 = some (r1, r2, r3)) ∧ Aside0 (kq ≤ kj4) ∧ Aside0 (Kd.N (Kd.slice 3 (Kd.int .i64)) 30 w' w.heap.size (fun k_ => (w.heap.size ≤ k_) ∧ k_ ≠ gb168) v5 x5_2) ∧ Aside0 (w'.heap[gb168]? = some (.cells #[(.slice A0_0 l0_0.length c0_0), (.slice A0_1 l0_1.length c0_1), (.slice A0_2 l0_2.length c0_2)] 32 (0, 0))) ∧ Aside0 (Below w.heap.size w w'))
       case atStart => exact ⟨(y173), (0), q10_, H', ⟨Nat.le_refl _⟩, ⟨by (with_reducible repeat (first | apply Kd.N_alloc | apply Kd.N_drewN | apply Kd.N_drew)); exact HO175.out⟩, ⟨by (with_reducible repeat (first | refine blk_drewN ?_ _ | refine blk_drew ?_ | refine blk_alloc ?_ _)); exact BK168.out⟩, ⟨by repeat (first | (with_reducible first | exact HB.out | apply below_alloc | apply pw_below_drewN | apply below_drew1 | refine below_set ?_ GE168.out) | exact HB.out)⟩⟩
       case round =>
        clear H'
        try clear c1
        try clear p2
        try clear c4
        try clear c4b0
        try clear c4b1
        try clear p6
        try clear c9
        try clear c9b0
        try clear c11
        try clear c12
        try clear c12b0
        try clear c14
        try clear c17
        try clear hcz10_0
        try clear hcz10_1
        try clear hcz10_2
        try clear hcz13_0
        try clear hcz13_1
        try clear hcz13_2
        try clear hcz15_0
        try clear hcz15_1
        try clear hcz15_2
        try clear hcz20_0
        try clear hcz20_1
        try clear hcz20_2
        try clear hcz7_0
        try clear hcz7_1
        try clear hcz7_2
        try clear hfz10_0
        try clear hfz10_1
        try clear hfz10_2
        try clear hfz13_0
        try clear hfz13_1
        try clear hfz13_2
        try clear hfz15_0
        try clear hfz15_1
        try clear hfz15_2
        try clear hfz20_0
        try clear hfz20_1
        try clear hfz20_2
        try clear hfz7_0
        try clear hfz7_1
        try clear hfz7_2
        try clear p2
        obtain ⟨x5_2, x44_2, rfl, HA, HK2, HO_5, BK168, HB⟩ := hrel
        cases gk with
        | zero => exact absurd HA.out (by simp [blast_Clauses.l0])
        | succ k2 =>
         have H := HA.out
         clear HA
         simp only [blast_Clauses.l0] at H
         by_cases c21 : x44_2 < (l0_1.length : Int)
         ·rw [if_pos c21] at H
          have c21b0 : decide (x44_2 < (l0_1.length : Int)) = true := decide_eq_true c21
          clear c21
          by_cases c22 : 0 ≤ x44_2
          ·rw [if_pos c22] at H
           have c22b0 : decide (0 ≤ x44_2) = true := decide_eq_true c22
           clear c22
           by_cases c23 : x44_2 < (l0_1.length : Int)
           ·rw [if_pos c23] at H
            have c23b0 : decide (x44_2 < (l0_1.length : Int)) = true := decide_eq_true c23
            clear c23
            replace H := Option.bind_eq_some_iff.mp H
            obtain ⟨t178, A240, H⟩ := H
            replace H : ((blast_literal.f ((rd_T49 l0_1 x44_2).f1)).bind fun t179 => ((some (([(([wrap64 (-(wrap64 ((wrap64 (2 + (l0_0.length : Int))) + x44_2))), t178] : List Int)), (([wrap64 (-(wrap64 ((wrap64 (2 + (l0_0.length : Int))) + x44_2))), t179] : List Int)), (([wrap64 ((wrap64 (2 + (l0_0.length : Int))) + x44_2), wrap64 (-t178), wrap64 (-t179)] : List Int))] : List (List Int)) : List (List Int))).bind fun y189 => (if x5_2.length + y189.length < 5864062014805 then (blast_Clauses.l0 k2 a1 (wrap64 ((wrap64 (1 + (l0_0.length : Int))) + (l0_1.length : Int))) (x5_2 ++ y189) l0_1 (l0_1.length : Int) (wrap64 (x44_2 + 1)) l0_0 l0_1 l0_2) else (none)))) = some (r1, r2, r3) := H
            have A24 := Aside0.mk A240
            clear A240
            replace H := Option.bind_eq_some_iff.mp H
            obtain ⟨t179, A250, H⟩ := H
            replace H : ((some (([(([wrap64 (-(wrap64 ((wrap64 (2 + (l0_0.length : Int))) + x44_2))), t178] : List Int)), (([wrap64 (-(wrap64 ((wrap64 (2 + (l0_0.length : Int))) + x44_2))), t179] : List Int)), (([wrap64 ((wrap64 (2 + (l0_0.length : Int))) + x44_2), wrap64 (-t178), wrap64 (-t179)] : List Int))] : List (List Int)) : List (List Int))).bind fun y189 => (if x5_2.length + y189.length < 5864062014805 then (blast_Clauses.l0 k2 a1 (wrap64 ((wrap64 (1 + (l0_0.length : Int))) + (l0_1.length : Int))) (x5_2 ++ y189) l0_1 (l0_1.length : Int) (wrap64 (x44_2 + 1)) l0_0 l0_1 l0_2) else (none))) = some (r1, r2, r3) := H
            have A25 := Aside0.mk A250
            clear A250
            obtain ⟨y180, hy180⟩ : ∃ y_ : List Int, y_ = (([wrap64 (-(wrap64 ((wrap64 (2 + (l0_0.length : Int))) + x44_2))), t178] : List Int)) := ⟨_, rfl⟩
            replace H : ((some (([y180, (([wrap64 (-(wrap64 ((wrap64 (2 + (l0_0.length : Int))) + x44_2))), t179] : List Int)), (([wrap64 ((wrap64 (2 + (l0_0.length : Int))) + x44_2), wrap64 (-t178), wrap64 (-t179)] : List Int))] : List (List Int)) : List (List Int))).bind fun y189 => (if x5_2.length + y189.length < 5864062014805 then (blast_Clauses.l0 k2 a1 (wrap64 ((wrap64 (1 + (l0_0.length : Int))) + (l0_1.length : Int))) (x5_2 ++ y189) l0_1 (l0_1.length : Int) (wrap64 (x44_2 + 1)) l0_0 l0_1 l0_2) else (none))) = some (r1, r2, r3) := by first | (rw [hy180]; with_reducible exact H) | (have H2_ := (Option.bind_some _ _).symm.trans H; rw [hy180]; with_reducible exact H2_) | (have H2_ := (Option.bind_some _ _).symm.trans H; with_reducible exact H2_) | with_reducible exact H | (rw [hy180]; exact H) | exact H
            have Ny180 := Aside0.mk hy180
            clear hy180
            obtain ⟨y183, hy183⟩ : ∃ y_ : List Int, y_ = (([wrap64 (-(wrap64 ((wrap64 (2 + (l0_0.length : Int))) + x44_2))), t179] : List Int)) := ⟨_, rfl⟩
            replace H : ((some (([y180, y183, (([wrap64 ((wrap64 (2 + (l0_0.length : Int))) + x44_2), wrap64 (-t178), wrap64 (-t179)] : List Int))] : List (List Int)) : List (List Int))).bind fun y189 => (if x5_2.length + y189.length < 5864062014805 then (blast_Clauses.l0 k2 a1 (wrap64 ((wrap64 (1 + (l0_0.length : Int))) + (l0_1.length : Int))) (x5_2 ++ y189) l0_1 (l0_1.length : Int) (wrap64 (x44_2 + 1)) l0_0 l0_1 l0_2) else (none))) = some (r1, r2, r3) := by first | (rw [hy183]; with_reducible exact H) | (have H2_ := (Option.bind_some _ _).symm.trans H; rw [hy183]; with_reducible exact H2_) | (have H2_ := (Option.bind_some _ _).symm.trans H; with_reducible exact H2_) | with_reducible exact H | (rw [hy183]; exact H) | exact H
            have Ny183 := Aside0.mk hy183
            clear hy183
            obtain ⟨y186, hy186⟩ : ∃ y_ : List Int, y_ = (([wrap64 ((wrap64 (2 + (l0_0.length : Int))) + x44_2), wrap64 (-t178), wrap64 (-t179)] : List Int)) := ⟨_, rfl⟩
            replace H : ((some (([y180, y183, y186] : List (List Int)) : List (List Int))).bind fun y189 => (if x5_2.length + y189.length < 5864062014805 then (blast_Clauses.l0 k2 a1 (wrap64 ((wrap64 (1 + (l0_0.length : Int))) + (l0_1.length : Int))) (x5_2 ++ y189) l0_1 (l0_1.length : Int) (wrap64 (x44_2 + 1)) l0_0 l0_1 l0_2) else (none))) = some (r1, r2, r3) := by first | (rw [hy186]; with_reducible exact H) | (have H2_ := (Option.bind_some _ _).symm.trans H; rw [hy186]; with_reducible exact H2_) | (have H2_ := (Option.bind_some _ _).symm.trans H; with_reducible exact H2_) | with_reducible exact H | (rw [hy186]; exact H) | exact H
            have Ny186 := Aside0.mk hy186
            clear hy186
            obtain ⟨y189, hy189⟩ : ∃ y_ : List (List Int), y_ = (([y180, y183, y186] : List (List Int))) := ⟨_, rfl⟩
            replace H : (if x5_2.length + y189.length < 5864062014805 then (blast_Clauses.l0 k2 a1 (wrap64 ((wrap64 (1 + (l0_0.length : Int))) + (l0_1.length : Int))) (x5_2 ++ y189) l0_1 (l0_1.length : Int) (wrap64 (x44_2 + 1)) l0_0 l0_1 l0_2) else (none)) = some (r1, r2, r3) := by first | (rw [hy189]; with_reducible exact H) | (have H2_ := (Option.bind_some _ _).symm.trans H; rw [hy189]; with_reducible exact H2_) | (have H2_ := (Option.bind_some _ _).symm.trans H; with_reducible exact H2_) | with_reducible exact H | (rw [hy189]; exact H) | exact H
            have Ny189 := Aside0.mk hy189
            clear hy189
            by_cases c26 : x5_2.length + y189.length < 5864062014805
            ·rw [if_pos c26] at H
             have LMc26 := Aside0.mk c26
             clear c26
             obtain ⟨y192, hy192⟩ : ∃ y_ : List (List Int), y_ = (x5_2 ++ y189) := ⟨_, rfl⟩
             replace H : (blast_Clauses.l0 k2 a1 (wrap64 ((wrap64 (1 + (l0_0.length : Int))) + (l0_1.length : Int))) y192 l0_1 (l0_1.length : Int) (wrap64 (x44_2 + 1)) l0_0 l0_1 l0_2) = some (r1, r2, r3) := by first | (rw [hy192]; with_reducible exact H) | (have H2_ := (Option.bind_some _ _).symm.trans H; rw [hy192]; with_reducible exact H2_) | (have H2_ := (Option.bind_some _ _).symm.trans H; with_reducible exact H2_) | with_reducible exact H | (rw [hy192]; exact H) | exact H
             have Ny192 := Aside0.mk hy192
             clear hy192
             have H' := Aside0.mk H
             clear H
             have p176 : 0 ≤ (x44_2 : Int) := of_decide_eq_true q2_
             have q176 : x44_2 < (l0_1.length : Int) := of_decide_eq_true q2_
             obtain ⟨ad176, e176, hx176_0, hx176_1⟩ := at_T49 HR0_1.out x44_2 p176 q176
             cases e176
             replace hx176_0 := (HB.out.cell (World.block_lt_of_cell? w _ hx176_0)).trans hx176_0
             replace hx176_1 := (HB.out.cell (World.block_lt_of_cell? w _ hx176_1)).trans hx176_1
             replace p176 := eq_true p176
             replace q176 := eq_true q176
             go_wp2_with (first | ((with_reducible refine gate_dst (N := 9) rfl ?_); (try (refine gate_guard (by rfl) ?_; dsimp only)); refine box_event ?hg (N := 9) ?hd (cs := #[.int .i64 0, .int .i64 0]) (t := 49) ?hr ?_; (case hd => rfl); (case hg => rfl); (case hr => first | (go_simp; done) | (go_simp; rfl)); intro gb177 hg w27 hbox hb; have n0_ := Aside0.mk (Kd.N_below (Kd.N_elderB q15_ gb177 (Nat.le_of_eq hg.symm)) hb); have n1_ := Aside0.mk (blk_below (g := gb168) (o := .cells #[.slice A0_0 l0_0.length c0_0, .slice (some ad176) l0_1.length c0_1, .slice A0_2 l0_2.length c0_2] 32 (0, 0)) q4_ hb); have n2_ := Aside0.mk (below_step q3_ hb); have n3_ := Aside0.mk (hbox); have n4_ := Aside0.mk ((by rw [hg]; exact (below_size q3_) : w.heap.size ≤ gb177)); have n5_ := Aside0.mk ((by rw [hg]; exact (below_size q3_) : w.heap.size ≤ gb177)); have n6_ := Aside0.mk ((by rw [hg]; exact Nat.ne_of_lt (blk_lt (g := gb168) (o := .cells #[.slice A0_0 l0_0.length c0_0, .slice (some ad176) l0_1.length c0_1, .slice A0_2 l0_2.length c0_2] 32 (0, 0)) q4_) : gb168 ≠ gb177)); have n7_ := Aside0.mk ((by rw [hg]; exact Nat.ne_of_gt (blk_lt (g := gb168) (o := .cells #[.slice A0_0 l0_0.length c0_0, .slice (some ad176) l0_1.length c0_1, .slice A0_2 l0_2.length c0_2] 32 (0, 0)) q4_) : gb177 ≠ gb168)); clear HO_5; clear BK168; clear HB; have HO_5 := n0_; have BK168 := n1_; have HB := n2_; have BK177 := n3_; have GW177 := n4_; have GE177 := n5_; have NB168_177 := n6_; have NB177_168 := n7_; clear n0_ n1_ n2_ n3_ n4_ n5_ n6_ n7_; clear hb hbox hg; have hnb28 := NB177_168.out; have hnc28 := NB168_177.out; have hcz29_0 : w27.cell? ⟨gb177, 0, none⟩ = some (.int .i64 0) := (blk_cell BK177.out 0).trans rfl; have hcz29_1 : w27.cell? ⟨gb177, 1, none⟩ = some (.int .i64 0) := (blk_cell BK177.out 1).trans rfl; have hfz29_0 := blk_frozen BK177.out 0; have hfz29_1 := blk_frozen BK177.out 1; have hcz30_0 : w27.cell? ⟨gb168, 0, none⟩ = some (.slice A0_0 l0_0.length c0_0) := (blk_cell BK168.out 0).trans rfl; have hcz30_1 : w27.cell? ⟨gb168, 1, none⟩ = some (.slice (some ad176) l0_1.length c0_1) := (blk_cell BK168.out 1).trans rfl; have hcz30_2 : w27.cell? ⟨gb168, 2, none⟩ = some (.slice A0_2 l0_2.length c0_2) := (blk_cell BK168.out 2).trans rfl; have hfz30_0 := blk_frozen BK168.out 0; have hfz30_1 := blk_frozen BK168.out 1; have hfz30_2 := blk_frozen BK168.out 2) | (go_at_call 41; (with_reducible refine (blast_literal.calls ((rd_T49 l0_1 x44_2).f0) t178 _ A24.out).mono ?_); rintro e w' ⟨rfl, ⟨nd, rfl⟩⟩; (try first | exact ⟨rfl, _, World.drewN_drewN _ _ _⟩ | exact ⟨rfl, _, Eq.trans (World.drewN_drewN _ _ _) (congrArg (World.drewN _) (Nat.add_assoc _ _ _))⟩)) | (go_at_call 41; (with_reducible refine (blast_literal.calls ((rd_T49 l0_1 x44_2).f1) t179 _ A25.out).mono ?_); rintro e w' ⟨rfl, ⟨nd, rfl⟩⟩; (try first | exact ⟨rfl, _, World.drewN_drewN _ _ _⟩ | exact ⟨rfl, _, Eq.trans (World.drewN_drewN _ _ _) (congrArg (World.drewN _) (Nat.add_assoc _ _ _))⟩)) | ((with_reducible refine gate_dst (N := 65) rfl ?_); (try (refine gate_guard (by rfl) ?_; dsimp only)); refine Kd.R_lit (Kd.int .i64) _ 3 ?hg (N := 65) ?hd (xs := ([wrap64 (-(wrap64 ((wrap64 (2 + (l0_0.length : Int))) + x44_2))), t178] : List Int)) (inner := [.int .i64 (wrap64 (-(wrap64 ((wrap64 (2 + (l0_0.length : Int))) + x44_2)))), .int .i64 t178]) (ok := fun _ => True) (okp := fun _ => True) ?hr ?hp (fun _ hk => hk) trivial (Below.refl _ _) (Nat.le_refl _) (by simp) ?_; (case hd => rfl); (case hg => rfl); (case hr => first | (go_simp; done) | (go_simp; rfl)); (case hp => exact (Reps.one (show Kd.M (Kd.int .i64) _ _ _ (wrap64 (-(wrap64 ((wrap64 (2 + (l0_0.length : Int))) + x44_2)))) [.int .i64 (wrap64 (-(wrap64 ((wrap64 (2 + (l0_0.length : Int))) + x44_2))))] from rfl) (Reps.one (show Kd.M (Kd.int .i64) _ _ _ t178 [.int .i64 t178] from rfl) (Reps.none _ _)))); intro v181 w31 ho32 hb hg_ hnew_; clear hg_ hnew_; (first | rw [← Ny180.out] at ho32 | (simp only [Int.reduceToNat] at ho32; rw [← Ny180.out] at ho32)); have n0_ := Aside0.mk (Kd.N_elder' q30_ (Kd.R_base ho32) hb); have n1_ := Aside0.mk (Kd.R_lower (Kd.R_newM (M := fun k_ => (w.heap.size ≤ k_)) ho32 (below_size q1_) (fun k_ h_ => h_)) (below_size q1_)); have n2_ := Aside0.mk (blk_below (g := gb168) (o := .cells #[.slice A0_0 l0_0.length c0_0, .slice (some ad176) l0_1.length c0_1, .slice A0_2 l0_2.length c0_2] 32 (0, 0)) q26_ hb); have n3_ := Aside0.mk (blk_below (g := gb177) (o := .cells #[.int .i64 ((rd_T49 l0_1 x44_2).f0), .int .i64 ((rd_T49 l0_1 x44_2).f1)] 49 (0, 0)) q23_ hb); have n4_ := Aside0.mk (below_step q1_ hb); clear HO_5; clear BK168; clear BK177; clear HB; have HO_5 := n0_; have HO182 := n1_; have BK168 := n2_; have BK177 := n3_; have HB := n4_; clear n0_ n1_ n2_ n3_ n4_; clear hb ho32) | ((with_reducible refine gate_dst (N := 69) rfl ?_); (try (refine gate_guard (by rfl) ?_; dsimp only)); refine Kd.R_lit (Kd.int .i64) _ 3 ?hg (N := 69) ?hd (xs := ([wrap64 (-(wrap64 ((wrap64 (2 + (l0_0.length : Int))) + x44_2))), t179] : List Int)) (inner := [.int .i64 (wrap64 (-(wrap64 ((wrap64 (2 + (l0_0.length : Int))) + x44_2)))), .int .i64 t179]) (ok := fun _ => True) (okp := fun _ => True) ?hr ?hp (fun _ hk => hk) trivial (Below.refl _ _) (Nat.le_refl _) (by simp) ?_; (case hd => rfl); (case hg => rfl); (case hr => first | (go_simp; done) | (go_simp; rfl)); (case hp => exact (Reps.one (show Kd.M (Kd.int .i64) _ _ _ (wrap64 (-(wrap64 ((wrap64 (2 + (l0_0.length : Int))) + x44_2)))) [.int .i64 (wrap64 (-(wrap64 ((wrap64 (2 + (l0_0.length : Int))) + x44_2))))] from rfl) (Reps.one (show Kd.M (Kd.int .i64) _ _ _ t179 [.int .i64 t179] from rfl) (Reps.none _ _)))); intro v184 w33 ho34 hb hg_ hnew_; clear hg_ hnew_; (first | rw [← Ny183.out] at ho34 | (simp only [Int.reduceToNat] at ho34; rw [← Ny183.out] at ho34)); have n0_ := Aside0.mk (Kd.N_elder' q15_ (Kd.R_base ho34) hb); have n1_ := Aside0.mk (Kd.R_elder' q25_ (Kd.R_base ho34) hb); have n2_ := Aside0.mk (Kd.R_lower (Kd.R_new' (Kd.R_newM (M := fun k_ => (w.heap.size ≤ k_)) ho34 (below_size q1_) (fun k_ h_ => h_)) (Kd.R_lt q25_)) (below_size q1_)); have n3_ := Aside0.mk (blk_below (g := gb168) (o := .cells #[.slice A0_0 l0_0.length c0_0, .slice (some ad176) l0_1.length c0_1, .slice A0_2 l0_2.length c0_2] 32 (0, 0)) q4_ hb); have n4_ := Aside0.mk (blk_below (g := gb177) (o := .cells #[.int .i64 ((rd_T49 l0_1 x44_2).f0), .int .i64 ((rd_T49 l0_1 x44_2).f1)] 49 (0, 0)) q16_ hb); have n5_ := Aside0.mk (below_step q1_ hb); clear HO_5; clear HO182; clear BK168; clear BK177; clear HB; have HO_5 := n0_; have HO182 := n1_; have HO185 := n2_; have BK168 := n3_; have BK177 := n4_; have HB := n5_; clear n0_ n1_ n2_ n3_ n4_ n5_; clear hb ho34) | ((with_reducible refine gate_dst (N := 75) rfl ?_); (try (refine gate_guard (by rfl) ?_; dsimp only)); refine Kd.R_lit (Kd.int .i64) _ 3 ?hg (N := 75) ?hd (xs := ([wrap64 ((wrap64 (2 + (l0_0.length : Int))) + x44_2), wrap64 (-t178), wrap64 (-t179)] : List Int)) (inner := [.int .i64 (wrap64 ((wrap64 (2 + (l0_0.length : Int))) + x44_2)), .int .i64 (wrap64 (-t178)), .int .i64 (wrap64 (-t179))]) (ok := fun _ => True) (okp := fun _ => True) ?hr ?hp (fun _ hk => hk) trivial (Below.refl _ _) (Nat.le_refl _) (by simp) ?_; (case hd => rfl); (case hg => rfl); (case hr => first | (go_simp; done) | (go_simp; rfl)); (case hp => exact (Reps.one (show Kd.M (Kd.int .i64) _ _ _ (wrap64 ((wrap64 (2 + (l0_0.length : Int))) + x44_2)) [.int .i64 (wrap64 ((wrap64 (2 + (l0_0.length : Int))) + x44_2))] from rfl) (Reps.one (show Kd.M (Kd.int .i64) _ _ _ (wrap64 (-t178)) [.int .i64 (wrap64 (-t178))] from rfl) (Reps.one (show Kd.M (Kd.int .i64) _ _ _ (wrap64 (-t179)) [.int .i64 (wrap64 (-t179))] from rfl) (Reps.none _ _))))); intro v187 w35 ho36 hb hg_ hnew_; clear hg_ hnew_; (first | rw [← Ny186.out] at ho36 | (simp only [Int.reduceToNat] at ho36; rw [← Ny186.out] at ho36)); have n0_ := Aside0.mk (Kd.N_elder' q15_ (Kd.R_base ho36) hb); have n1_ := Aside0.mk (Kd.R_elder' q25_ (Kd.R_base ho36) hb); have n2_ := Aside0.mk (Kd.R_elder' (by (with_reducible repeat (first | apply Kd.R_alloc | apply Kd.R_drewN | apply Kd.R_drew)); exact HO185.out) (Kd.R_base ho36) hb); have n3_ := Aside0.mk (Kd.R_lower (Kd.R_new' (Kd.R_new' (Kd.R_newM (M := fun k_ => (w.heap.size ≤ k_)) ho36 (below_size q1_) (fun k_ h_ => h_)) (Kd.R_lt q25_)) (Kd.R_lt (by (with_reducible repeat (first | apply Kd.R_alloc | apply Kd.R_drewN | apply Kd.R_drew)); exact HO185.out))) (below_size q1_)); have n4_ := Aside0.mk (blk_below (g := gb168) (o := .cells #[.slice A0_0 l0_0.length c0_0, .slice (some ad176) l0_1.length c0_1, .slice A0_2 l0_2.length c0_2] 32 (0, 0)) q4_ hb); have n5_ := Aside0.mk (blk_below (g := gb177) (o := .cells #[.int .i64 ((rd_T49 l0_1 x44_2).f0), .int .i64 ((rd_T49 l0_1 x44_2).f1)] 49 (0, 0)) q16_ hb); have n6_ := Aside0.mk (below_step q1_ hb); clear HO_5; clear HO182; clear HO185; clear BK168; clear BK177; clear HB; have HO_5 := n0_; have HO182 := n1_; have HO185 := n2_; have HO188 := n3_; have BK168 := n4_; have BK177 := n5_; have HB := n6_; clear n0_ n1_ n2_ n3_ n4_ n5_ n6_; clear hb ho36; obtain ⟨Ao37, co37, eo37⟩ := Kd.R_slice HO182.out; subst eo37; obtain ⟨Ao38, co38, eo38⟩ := Kd.R_slice HO185.out; subst eo38; obtain ⟨Ao39, co39, eo39⟩ := Kd.R_slice HO188.out; subst eo39) | ((with_reducible refine gate_dst (N := 76) rfl ?_); (try (refine gate_guard (by rfl) ?_; dsimp only)); refine Kd.N_lit (Kd.slice 3 (Kd.int .i64)) _ 30 ?hg (N' := 76) ?hd (xs := ([y180, y183, y186] : List (List Int))) (inner := [.slice Ao37 y180.length co37, .slice Ao38 y183.length co38, .slice Ao39 y186.length co39]) (ok := (fun k_ => (w.heap.size ≤ k_) ∧ some k_ ≠ (u5 : Value).ownBlock ∧ k_ ≠ gb168 ∧ k_ ≠ gb177)) (okp := (fun k_ => (w.heap.size ≤ k_) ∧ some k_ ≠ (u5 : Value).ownBlock ∧ k_ ≠ gb168 ∧ k_ ≠ gb177)) ?hr ?hp (fun _ hk => hk) ((show ∀ k_, w35.heap.size ≤ k_ → (fun k_ => (w.heap.size ≤ k_) ∧ some k_ ≠ (u5 : Value).ownBlock ∧ k_ ≠ gb168 ∧ k_ ≠ gb177) k_ from fun k_ hk => ⟨(Nat.le_trans (below_size q1_) hk), Kd.fresh' (Kd.N_lt q15_) k_ hk, Kd.freshB (g := gb168) (o := .cells #[.slice A0_0 l0_0.length c0_0, .slice (some ad176) l0_1.length c0_1, .slice A0_2 l0_2.length c0_2] 32 (0, 0)) q4_ k_ hk, Kd.freshB (g := gb177) (o := .cells #[.int .i64 ((rd_T49 l0_1 x44_2).f0), .int .i64 ((rd_T49 l0_1 x44_2).f1)] 49 (0, 0)) q16_ k_ hk⟩) _ (Nat.le_refl _)) (Below.refl _ _) (Nat.le_refl _) (by simp) ?_; (case hd => rfl); (case hg => rfl); (case hr => first | (go_simp; done) | (go_simp; rfl)); (case hp => exact (Reps.one (show Kd.FK (Kd.slice 3 (Kd.int .i64)) _ _ y180 [.slice Ao37 y180.length co37] from (Kd.FK_slice_mk (Kd.R_reads' (Kd.R_mono (ok' := (fun k_ => (w.heap.size ≤ k_) ∧ some k_ ≠ (u5 : Value).ownBlock ∧ k_ ≠ gb168 ∧ k_ ≠ gb177)) (Kd.R_types (Kd.R_types (Kd.R_apart' (HO182.out) (Kd.N_typed HO_5.out) q33_) BK168.out q33_) BK177.out q33_) (fun k_ hk => ⟨hk.1.1.1.1.1.1, ⟨hk.1.1.2, ⟨hk.1.2, hk.2⟩⟩⟩))).2.1 (Kd.R_F (Kd.R_mono (ok' := (fun k_ => (w.heap.size ≤ k_) ∧ some k_ ≠ (u5 : Value).ownBlock ∧ k_ ≠ gb168 ∧ k_ ≠ gb177)) (Kd.R_types (Kd.R_types (Kd.R_apart' (HO182.out) (Kd.N_typed HO_5.out) q33_) BK168.out q33_) BK177.out q33_) (fun k_ hk => ⟨hk.1.1.1.1.1.1, ⟨hk.1.1.2, ⟨hk.1.2, hk.2⟩⟩⟩))))) (Reps.one (show Kd.FK (Kd.slice 3 (Kd.int .i64)) _ _ y183 [.slice Ao38 y183.length co38] from (Kd.FK_slice_mk (Kd.R_reads' (Kd.R_mono (ok' := (fun k_ => (w.heap.size ≤ k_) ∧ some k_ ≠ (u5 : Value).ownBlock ∧ k_ ≠ gb168 ∧ k_ ≠ gb177)) (Kd.R_types (Kd.R_types (Kd.R_apart' (HO185.out) (Kd.N_typed HO_5.out) q33_) BK168.out q33_) BK177.out q33_) (fun k_ hk => ⟨hk.1.1.1.1.1.1, ⟨hk.1.1.2, ⟨hk.1.2, hk.2⟩⟩⟩))).2.1 (Kd.R_F (Kd.R_mono (ok' := (fun k_ => (w.heap.size ≤ k_) ∧ some k_ ≠ (u5 : Value).ownBlock ∧ k_ ≠ gb168 ∧ k_ ≠ gb177)) (Kd.R_types (Kd.R_types (Kd.R_apart' (HO185.out) (Kd.N_typed HO_5.out) q33_) BK168.out q33_) BK177.out q33_) (fun k_ hk => ⟨hk.1.1.1.1.1.1, ⟨hk.1.1.2, ⟨hk.1.2, hk.2⟩⟩⟩))))) (Reps.one (show Kd.FK (Kd.slice 3 (Kd.int .i64)) _ _ y186 [.slice Ao39 y186.length co39] from (Kd.FK_slice_mk (Kd.R_reads' (Kd.R_mono (ok' := (fun k_ => (w.heap.size ≤ k_) ∧ some k_ ≠ (u5 : Value).ownBlock ∧ k_ ≠ gb168 ∧ k_ ≠ gb177)) (Kd.R_types (Kd.R_types (Kd.R_apart' (HO188.out) (Kd.N_typed HO_5.out) q33_) BK168.out q33_) BK177.out q33_) (fun k_ hk => ⟨hk.1.1.1.1.1.1, ⟨hk.1.1.2, ⟨hk.1.2, hk.2⟩⟩⟩))).2.1 (Kd.R_F (Kd.R_mono (ok' := (fun k_ => (w.heap.size ≤ k_) ∧ some k_ ≠ (u5 : Value).ownBlock ∧ k_ ≠ gb168 ∧ k_ ≠ gb177)) (Kd.R_types (Kd.R_types (Kd.R_apart' (HO188.out) (Kd.N_typed HO_5.out) q33_) BK168.out q33_) BK177.out q33_) (fun k_ hk => ⟨hk.1.1.1.1.1.1, ⟨hk.1.1.2, ⟨hk.1.2, hk.2⟩⟩⟩))))) (Reps.none _ _))))); intro v190 w40 ho41 hb hg_ hnew_; clear hg_ hnew_; (first | rw [← Ny189.out] at ho41 | (simp only [Int.reduceToNat] at ho41; rw [← Ny189.out] at ho41)); have n0_ := Aside0.mk (Kd.N_elder' q15_ (Kd.N_base ho41) hb); have n1_ := Aside0.mk (Kd.N_lower ho41 (below_size q1_)); have n2_ := Aside0.mk (blk_below (g := gb168) (o := .cells #[.slice A0_0 l0_0.length c0_0, .slice (some ad176) l0_1.length c0_1, .slice A0_2 l0_2.length c0_2] 32 (0, 0)) q4_ hb); have n3_ := Aside0.mk (blk_below (g := gb177) (o := .cells #[.int .i64 ((rd_T49 l0_1 x44_2).f0), .int .i64 ((rd_T49 l0_1 x44_2).f1)] 49 (0, 0)) q16_ hb); have n4_ := Aside0.mk (below_step q1_ hb); clear HO_5; clear BK168; clear BK177; clear HB; clear HO182; clear HO185; clear HO188; have HO_5 := n0_; have HO191 := n1_; have BK168 := n2_; have BK177 := n3_; have HB := n4_; clear n0_ n1_ n2_ n3_ n4_; clear hb ho41; obtain ⟨Ao43, co43, eo43⟩ := Kd.N_slice HO191.out; subst eo43) | ((with_reducible refine gate_builtin (b := .append) (xs := #[.tmp 61, .tmp 76]) rfl ?_); (try (refine gate_guard (by rfl) ?_; dsimp only)); at_builtin; refine Kd.N_append_rows (Kd.slice 3 (Kd.int .i64)) (w0 := w) w.heap.size rfl (.tmp 61) (.tmp 76) 54 30 (.slice none 0 0) 24 rfl Tryd.underlying54 info30 rfl q33_ q29_ u5 x5_2 y189 _ _ _ (fun k_ => (w.heap.size ≤ k_) ∧ k_ ≠ gb168 ∧ k_ ≠ gb177) (fun k_ => ((fun k_ => (w.heap.size ≤ k_) ∧ k_ ≠ gb168 ∧ k_ ≠ gb177)) k_ ∧ some k_ ≠ (u5 : Value).ownBlock) rfl rfl ?aO ?aR (fun _ hk => hk) ?aF ?aB ?aS ?aL ?_; (case aR => exact (by skip; exact Kd.N_F (Kd.N_mono (ok' := (fun k_ => ((fun k_ => (w.heap.size ≤ k_) ∧ k_ ≠ gb168 ∧ k_ ≠ gb177)) k_ ∧ some k_ ≠ (u5 : Value).ownBlock)) (HO191.out) (fun k_ hk => ⟨⟨hk.1, ⟨hk.2.2.1, hk.2.2.2⟩⟩, hk.2.1⟩)))); (case aB => exact q1_); (case aF => exact (fun k_ hk => ⟨(Nat.le_trans (below_size q1_) hk), Kd.freshB (g := gb168) (o := .cells #[.slice A0_0 l0_0.length c0_0, .slice (some ad176) l0_1.length c0_1, .slice A0_2 l0_2.length c0_2] 32 (0, 0)) q4_ k_ hk, Kd.freshB (g := gb177) (o := .cells #[.int .i64 ((rd_T49 l0_1 x44_2).f0), .int .i64 ((rd_T49 l0_1 x44_2).f1)] 49 (0, 0)) q16_ k_ hk⟩)); (case aO => exact (by (with_reducible repeat (first | apply Kd.N_alloc | apply Kd.N_drewN | apply Kd.N_drew)); exact Kd.N_mono HO_5.out (fun _ hk => ⟨hk.1.1.1.1.1.1, ⟨hk.1.1.1.1.1.2, hk.1.1.1.1.2⟩⟩))); (case aS => exact (below_size q1_)); (case aL => have := LMc26.out; omega); intro v193 w42 ho hb hg hat; rw [← Ny192.out] at ho; have n0_ := Aside0.mk (blk_grown (g := gb168) (o := .cells #[.slice A0_0 l0_0.length c0_0, .slice (some ad176) l0_1.length c0_1, .slice A0_2 l0_2.length c0_2] 32 (0, 0)) q4_ hg (Kd.N_ne HO_5.out BK168.out q33_)); have n1_ := Aside0.mk (blk_grown (g := gb177) (o := .cells #[.int .i64 ((rd_T49 l0_1 x44_2).f0), .int .i64 ((rd_T49 l0_1 x44_2).f1)] 49 (0, 0)) q16_ hg (Kd.N_ne HO_5.out BK177.out q33_)); have n2_ := Aside0.mk (Kd.N_afterv (ok := (fun k_ => (w.heap.size ≤ k_) ∧ k_ ≠ gb168 ∧ k_ ≠ gb177)) (by (with_reducible repeat (first | apply Kd.N_alloc | apply Kd.N_drewN | apply Kd.N_drew)); exact Kd.N_mono HO191.out (fun _ hk => ⟨⟨hk.1, ⟨hk.2.2.1, hk.2.2.2⟩⟩, hk.2.1⟩)) hg hat); have n3_ := Aside0.mk (hb); have n4_ := Aside0.mk (ho); clear BK168; clear BK177; clear HO191; clear HB; clear HO_5; have BK168 := n0_; have BK177 := n1_; have HO191 := n2_; have HB := n3_; have HO194 := n4_; clear n0_ n1_ n2_ n3_ n4_; clear ho hb hg hat))
             repeat (go_quiet (first | ((with_reducible refine gate_dst (N := 9) rfl ?_); (try (refine gate_guard (by rfl) ?_; dsimp only)); refine box_event ?hg (N := 9) ?hd (cs := #[.int .i64 0, .int .i64 0]) (t := 49) ?hr ?_; (case hd => rfl); (case hg => rfl); (case hr => first | (go_simp; done) | (go_simp; rfl)); intro gb177 hg w27 hbox hb; have n0_ := Aside0.mk (Kd.N_below (Kd.N_elderB q15_ gb177 (Nat.le_of_eq hg.symm)) hb); have n1_ := Aside0.mk (blk_below (g := gb168) (o := .cells #[.slice A0_0 l0_0.length c0_0, .slice (some ad176) l0_1.length c0_1, .slice A0_2 l0_2.length c0_2] 32 (0, 0)) q4_ hb); have n2_ := Aside0.mk (below_step q3_ hb); have n3_ := Aside0.mk (hbox); have n4_ := Aside0.mk ((by rw [hg]; exact (below_size q3_) : w.heap.size ≤ gb177)); have n5_ := Aside0.mk ((by rw [hg]; exact (below_size q3_) : w.heap.size ≤ gb177)); have n6_ := Aside0.mk ((by rw [hg]; exact Nat.ne_of_lt (blk_lt (g := gb168) (o := .cells #[.slice A0_0 l0_0.length c0_0, .slice (some ad176) l0_1.length c0_1, .slice A0_2 l0_2.length c0_2] 32 (0, 0)) q4_) : gb168 ≠ gb177)); have n7_ := Aside0.mk ((by rw [hg]; exact Nat.ne_of_gt (blk_lt (g := gb168) (o := .cells #[.slice A0_0 l0_0.length c0_0, .slice (some ad176) l0_1.length c0_1, .slice A0_2 l0_2.length c0_2] 32 (0, 0)) q4_) : gb177 ≠ gb168)); clear HO_5; clear BK168; clear HB; have HO_5 := n0_; have BK168 := n1_; have HB := n2_; have BK177 := n3_; have GW177 := n4_; have GE177 := n5_; have NB168_177 := n6_; have NB177_168 := n7_; clear n0_ n1_ n2_ n3_ n4_ n5_ n6_ n7_; clear hb hbox hg; have hnb28 := NB177_168.out; have hnc28 := NB168_177.out; have hcz29_0 : w27.cell? ⟨gb177, 0, none⟩ = some (.int .i64 0) := (blk_cell BK177.out 0).trans rfl; have hcz29_1 : w27.cell? ⟨gb177, 1, none⟩ = some (.int .i64 0) := (blk_cell BK177.out 1).trans rfl; have hfz29_0 := blk_frozen BK177.out 0; have hfz29_1 := blk_frozen BK177.out 1; have hcz30_0 : w27.cell? ⟨gb168, 0, none⟩ = some (.slice A0_0 l0_0.length c0_0) := (blk_cell BK168.out 0).trans rfl; have hcz30_1 : w27.cell? ⟨gb168, 1, none⟩ = some (.slice (some ad176) l0_1.length c0_1) := (blk_cell BK168.out 1).trans rfl; have hcz30_2 : w27.cell? ⟨gb168, 2, none⟩ = some (.slice A0_2 l0_2.length c0_2) := (blk_cell BK168.out 2).trans rfl; have hfz30_0 := blk_frozen BK168.out 0; have hfz30_1 := blk_frozen BK168.out 1; have hfz30_2 := blk_frozen BK168.out 2) | (go_at_call 41; (with_reducible refine (blast_literal.calls ((rd_T49 l0_1 x44_2).f0) t178 _ A24.out).mono ?_); rintro e w' ⟨rfl, ⟨nd, rfl⟩⟩; (try first | exact ⟨rfl, _, World.drewN_drewN _ _ _⟩ | exact ⟨rfl, _, Eq.trans (World.drewN_drewN _ _ _) (congrArg (World.drewN _) (Nat.add_assoc _ _ _))⟩)) | (go_at_call 41; (with_reducible refine (blast_literal.calls ((rd_T49 l0_1 x44_2).f1) t179 _ A25.out).mono ?_); rintro e w' ⟨rfl, ⟨nd, rfl⟩⟩; (try first | exact ⟨rfl, _, World.drewN_drewN _ _ _⟩ | exact ⟨rfl, _, Eq.trans (World.drewN_drewN _ _ _) (congrArg (World.drewN _) (Nat.add_assoc _ _ _))⟩)) | ((with_reducible refine gate_dst (N := 65) rfl ?_); (try (refine gate_guard (by rfl) ?_; dsimp only)); refine Kd.R_lit (Kd.int .i64) _ 3 ?hg (N := 65) ?hd (xs := ([wrap64 (-(wrap64 ((wrap64 (2 + (l0_0.length : Int))) + x44_2))), t178] : List Int)) (inner := [.int .i64 (wrap64 (-(wrap64 ((wrap64 (2 + (l0_0.length : Int))) + x44_2)))), .int .i64 t178]) (ok := fun _ => True) (okp := fun _ => True) ?hr ?hp (fun _ hk => hk) trivial (Below.refl _ _) (Nat.le_refl _) (by simp) ?_; (case hd => rfl); (case hg => rfl); (case hr => first | (go_simp; done) | (go_simp; rfl)); (case hp => exact (Reps.one (show Kd.M (Kd.int .i64) _ _ _ (wrap64 (-(wrap64 ((wrap64 (2 + (l0_0.length : Int))) + x44_2)))) [.int .i64 (wrap64 (-(wrap64 ((wrap64 (2 + (l0_0.length : Int))) + x44_2))))] from rfl) (Reps.one (show Kd.M (Kd.int .i64) _ _ _ t178 [.int .i64 t178] from rfl) (Reps.none _ _)))); intro v181 w31 ho32 hb hg_ hnew_; clear hg_ hnew_; (first | rw [← Ny180.out] at ho32 | (simp only [Int.reduceToNat] at ho32; rw [← Ny180.out] at ho32)); have n0_ := Aside0.mk (Kd.N_elder' q30_ (Kd.R_base ho32) hb); have n1_ := Aside0.mk (Kd.R_lower (Kd.R_newM (M := fun k_ => (w.heap.size ≤ k_)) ho32 (below_size q1_) (fun k_ h_ => h_)) (below_size q1_)); have n2_ := Aside0.mk (blk_below (g := gb168) (o := .cells #[.slice A0_0 l0_0.length c0_0, .slice (some ad176) l0_1.length c0_1, .slice A0_2 l0_2.length c0_2] 32 (0, 0)) q26_ hb); have n3_ := Aside0.mk (blk_below (g := gb177) (o := .cells #[.int .i64 ((rd_T49 l0_1 x44_2).f0), .int .i64 ((rd_T49 l0_1 x44_2).f1)] 49 (0, 0)) q23_ hb); have n4_ := Aside0.mk (below_step q1_ hb); clear HO_5; clear BK168; clear BK177; clear HB; have HO_5 := n0_; have HO182 := n1_; have BK168 := n2_; have BK177 := n3_; have HB := n4_; clear n0_ n1_ n2_ n3_ n4_; clear hb ho32) | ((with_reducible refine gate_dst (N := 69) rfl ?_); (try (refine gate_guard (by rfl) ?_; dsimp only)); refine Kd.R_lit (Kd.int .i64) _ 3 ?hg (N := 69) ?hd (xs := ([wrap64 (-(wrap64 ((wrap64 (2 + (l0_0.length : Int))) + x44_2))), t179] : List Int)) (inner := [.int .i64 (wrap64 (-(wrap64 ((wrap64 (2 + (l0_0.length : Int))) + x44_2)))), .int .i64 t179]) (ok := fun _ => True) (okp := fun _ => True) ?hr ?hp (fun _ hk => hk) trivial (Below.refl _ _) (Nat.le_refl _) (by simp) ?_; (case hd => rfl); (case hg => rfl); (case hr => first | (go_simp; done) | (go_simp; rfl)); (case hp => exact (Reps.one (show Kd.M (Kd.int .i64) _ _ _ (wrap64 (-(wrap64 ((wrap64 (2 + (l0_0.length : Int))) + x44_2)))) [.int .i64 (wrap64 (-(wrap64 ((wrap64 (2 + (l0_0.length : Int))) + x44_2))))] from rfl) (Reps.one (show Kd.M (Kd.int .i64) _ _ _ t179 [.int .i64 t179] from rfl) (Reps.none _ _)))); intro v184 w33 ho34 hb hg_ hnew_; clear hg_ hnew_; (first | rw [← Ny183.out] at ho34 | (simp only [Int.reduceToNat] at ho34; rw [← Ny183.out] at ho34)); have n0_ := Aside0.mk (Kd.N_elder' q15_ (Kd.R_base ho34) hb); have n1_ := Aside0.mk (Kd.R_elder' q25_ (Kd.R_base ho34) hb); have n2_ := Aside0.mk (Kd.R_lower (Kd.R_new' (Kd.R_newM (M := fun k_ => (w.heap.size ≤ k_)) ho34 (below_size q1_) (fun k_ h_ => h_)) (Kd.R_lt q25_)) (below_size q1_)); have n3_ := Aside0.mk (blk_below (g := gb168) (o := .cells #[.slice A0_0 l0_0.length c0_0, .slice (some ad176) l0_1.length c0_1, .slice A0_2 l0_2.length c0_2] 32 (0, 0)) q4_ hb); have n4_ := Aside0.mk (blk_below (g := gb177) (o := .cells #[.int .i64 ((rd_T49 l0_1 x44_2).f0), .int .i64 ((rd_T49 l0_1 x44_2).f1)] 49 (0, 0)) q16_ hb); have n5_ := Aside0.mk (below_step q1_ hb); clear HO_5; clear HO182; clear BK168; clear BK177; clear HB; have HO_5 := n0_; have HO182 := n1_; have HO185 := n2_; have BK168 := n3_; have BK177 := n4_; have HB := n5_; clear n0_ n1_ n2_ n3_ n4_ n5_; clear hb ho34) | ((with_reducible refine gate_dst (N := 75) rfl ?_); (try (refine gate_guard (by rfl) ?_; dsimp only)); refine Kd.R_lit (Kd.int .i64) _ 3 ?hg (N := 75) ?hd (xs := ([wrap64 ((wrap64 (2 + (l0_0.length : Int))) + x44_2), wrap64 (-t178), wrap64 (-t179)] : List Int)) (inner := [.int .i64 (wrap64 ((wrap64 (2 + (l0_0.length : Int))) + x44_2)), .int .i64 (wrap64 (-t178)), .int .i64 (wrap64 (-t179))]) (ok := fun _ => True) (okp := fun _ => True) ?hr ?hp (fun _ hk => hk) trivial (Below.refl _ _) (Nat.le_refl _) (by simp) ?_; (case hd => rfl); (case hg => rfl); (case hr => first | (go_simp; done) | (go_simp; rfl)); (case hp => exact (Reps.one (show Kd.M (Kd.int .i64) _ _ _ (wrap64 ((wrap64 (2 + (l0_0.length : Int))) + x44_2)) [.int .i64 (wrap64 ((wrap64 (2 + (l0_0.length : Int))) + x44_2))] from rfl) (Reps.one (show Kd.M (Kd.int .i64) _ _ _ (wrap64 (-t178)) [.int .i64 (wrap64 (-t178))] from rfl) (Reps.one (show Kd.M (Kd.int .i64) _ _ _ (wrap64 (-t179)) [.int .i64 (wrap64 (-t179))] from rfl) (Reps.none _ _))))); intro v187 w35 ho36 hb hg_ hnew_; clear hg_ hnew_; (first | rw [← Ny186.out] at ho36 | (simp only [Int.reduceToNat] at ho36; rw [← Ny186.out] at ho36)); have n0_ := Aside0.mk (Kd.N_elder' q15_ (Kd.R_base ho36) hb); have n1_ := Aside0.mk (Kd.R_elder' q25_ (Kd.R_base ho36) hb); have n2_ := Aside0.mk (Kd.R_elder' (by (with_reducible repeat (first | apply Kd.R_alloc | apply Kd.R_drewN | apply Kd.R_drew)); exact HO185.out) (Kd.R_base ho36) hb); have n3_ := Aside0.mk (Kd.R_lower (Kd.R_new' (Kd.R_new' (Kd.R_newM (M := fun k_ => (w.heap.size ≤ k_)) ho36 (below_size q1_) (fun k_ h_ => h_)) (Kd.R_lt q25_)) (Kd.R_lt (by (with_reducible repeat (first | apply Kd.R_alloc | apply Kd.R_drewN | apply Kd.R_drew)); exact HO185.out))) (below_size q1_)); have n4_ := Aside0.mk (blk_below (g := gb168) (o := .cells #[.slice A0_0 l0_0.length c0_0, .slice (some ad176) l0_1.length c0_1, .slice A0_2 l0_2.length c0_2] 32 (0, 0)) q4_ hb); have n5_ := Aside0.mk (blk_below (g := gb177) (o := .cells #[.int .i64 ((rd_T49 l0_1 x44_2).f0), .int .i64 ((rd_T49 l0_1 x44_2).f1)] 49 (0, 0)) q16_ hb); have n6_ := Aside0.mk (below_step q1_ hb); clear HO_5; clear HO182; clear HO185; clear BK168; clear BK177; clear HB; have HO_5 := n0_; have HO182 := n1_; have HO185 := n2_; have HO188 := n3_; have BK168 := n4_; have BK177 := n5_; have HB := n6_; clear n0_ n1_ n2_ n3_ n4_ n5_ n6_; clear hb ho36; obtain ⟨Ao37, co37, eo37⟩ := Kd.R_slice HO182.out; subst eo37; obtain ⟨Ao38, co38, eo38⟩ := Kd.R_slice HO185.out; subst eo38; obtain ⟨Ao39, co39, eo39⟩ := Kd.R_slice HO188.out; subst eo39) | ((with_reducible refine gate_dst (N := 76) rfl ?_); (try (refine gate_guard (by rfl) ?_; dsimp only)); refine Kd.N_lit (Kd.slice 3 (Kd.int .i64)) _ 30 ?hg (N' := 76) ?hd (xs := ([y180, y183, y186] : List (List Int))) (inner := [.slice Ao37 y180.length co37, .slice Ao38 y183.length co38, .slice Ao39 y186.length co39]) (ok := (fun k_ => (w.heap.size ≤ k_) ∧ some k_ ≠ (u5 : Value).ownBlock ∧ k_ ≠ gb168 ∧ k_ ≠ gb177)) (okp := (fun k_ => (w.heap.size ≤ k_) ∧ some k_ ≠ (u5 : Value).ownBlock ∧ k_ ≠ gb168 ∧ k_ ≠ gb177)) ?hr ?hp (fun _ hk => hk) ((show ∀ k_, w35.heap.size ≤ k_ → (fun k_ => (w.heap.size ≤ k_) ∧ some k_ ≠ (u5 : Value).ownBlock ∧ k_ ≠ gb168 ∧ k_ ≠ gb177) k_ from fun k_ hk => ⟨(Nat.le_trans (below_size q1_) hk), Kd.fresh' (Kd.N_lt q15_) k_ hk, Kd.freshB (g := gb168) (o := .cells #[.slice A0_0 l0_0.length c0_0, .slice (some ad176) l0_1.length c0_1, .slice A0_2 l0_2.length c0_2] 32 (0, 0)) q4_ k_ hk, Kd.freshB (g := gb177) (o := .cells #[.int .i64 ((rd_T49 l0_1 x44_2).f0), .int .i64 ((rd_T49 l0_1 x44_2).f1)] 49 (0, 0)) q16_ k_ hk⟩) _ (Nat.le_refl _)) (Below.refl _ _) (Nat.le_refl _) (by simp) ?_; (case hd => rfl); (case hg => rfl); (case hr => first | (go_simp; done) | (go_simp; rfl)); (case hp => exact (Reps.one (show Kd.FK (Kd.slice 3 (Kd.int .i64)) _ _ y180 [.slice Ao37 y180.length co37] from (Kd.FK_slice_mk (Kd.R_reads' (Kd.R_mono (ok' := (fun k_ => (w.heap.size ≤ k_) ∧ some k_ ≠ (u5 : Value).ownBlock ∧ k_ ≠ gb168 ∧ k_ ≠ gb177)) (Kd.R_types (Kd.R_types (Kd.R_apart' (HO182.out) (Kd.N_typed HO_5.out) q33_) BK168.out q33_) BK177.out q33_) (fun k_ hk => ⟨hk.1.1.1.1.1.1, ⟨hk.1.1.2, ⟨hk.1.2, hk.2⟩⟩⟩))).2.1 (Kd.R_F (Kd.R_mono (ok' := (fun k_ => (w.heap.size ≤ k_) ∧ some k_ ≠ (u5 : Value).ownBlock ∧ k_ ≠ gb168 ∧ k_ ≠ gb177)) (Kd.R_types (Kd.R_types (Kd.R_apart' (HO182.out) (Kd.N_typed HO_5.out) q33_) BK168.out q33_) BK177.out q33_) (fun k_ hk => ⟨hk.1.1.1.1.1.1, ⟨hk.1.1.2, ⟨hk.1.2, hk.2⟩⟩⟩))))) (Reps.one (show Kd.FK (Kd.slice 3 (Kd.int .i64)) _ _ y183 [.slice Ao38 y183.length co38] from (Kd.FK_slice_mk (Kd.R_reads' (Kd.R_mono (ok' := (fun k_ => (w.heap.size ≤ k_) ∧ some k_ ≠ (u5 : Value).ownBlock ∧ k_ ≠ gb168 ∧ k_ ≠ gb177)) (Kd.R_types (Kd.R_types (Kd.R_apart' (HO185.out) (Kd.N_typed HO_5.out) q33_) BK168.out q33_) BK177.out q33_) (fun k_ hk => ⟨hk.1.1.1.1.1.1, ⟨hk.1.1.2, ⟨hk.1.2, hk.2⟩⟩⟩))).2.1 (Kd.R_F (Kd.R_mono (ok' := (fun k_ => (w.heap.size ≤ k_) ∧ some k_ ≠ (u5 : Value).ownBlock ∧ k_ ≠ gb168 ∧ k_ ≠ gb177)) (Kd.R_types (Kd.R_types (Kd.R_apart' (HO185.out) (Kd.N_typed HO_5.out) q33_) BK168.out q33_) BK177.out q33_) (fun k_ hk => ⟨hk.1.1.1.1.1.1, ⟨hk.1.1.2, ⟨hk.1.2, hk.2⟩⟩⟩))))) (Reps.one (show Kd.FK (Kd.slice 3 (Kd.int .i64)) _ _ y186 [.slice Ao39 y186.length co39] from (Kd.FK_slice_mk (Kd.R_reads' (Kd.R_mono (ok' := (fun k_ => (w.heap.size ≤ k_) ∧ some k_ ≠ (u5 : Value).ownBlock ∧ k_ ≠ gb168 ∧ k_ ≠ gb177)) (Kd.R_types (Kd.R_types (Kd.R_apart' (HO188.out) (Kd.N_typed HO_5.out) q33_) BK168.out q33_) BK177.out q33_) (fun k_ hk => ⟨hk.1.1.1.1.1.1, ⟨hk.1.1.2, ⟨hk.1.2, hk.2⟩⟩⟩))).2.1 (Kd.R_F (Kd.R_mono (ok' := (fun k_ => (w.heap.size ≤ k_) ∧ some k_ ≠ (u5 : Value).ownBlock ∧ k_ ≠ gb168 ∧ k_ ≠ gb177)) (Kd.R_types (Kd.R_types (Kd.R_apart' (HO188.out) (Kd.N_typed HO_5.out) q33_) BK168.out q33_) BK177.out q33_) (fun k_ hk => ⟨hk.1.1.1.1.1.1, ⟨hk.1.1.2, ⟨hk.1.2, hk.2⟩⟩⟩))))) (Reps.none _ _))))); intro v190 w40 ho41 hb hg_ hnew_; clear hg_ hnew_; (first | rw [← Ny189.out] at ho41 | (simp only [Int.reduceToNat] at ho41; rw [← Ny189.out] at ho41)); have n0_ := Aside0.mk (Kd.N_elder' q15_ (Kd.N_base ho41) hb); have n1_ := Aside0.mk (Kd.N_lower ho41 (below_size q1_)); have n2_ := Aside0.mk (blk_below (g := gb168) (o := .cells #[.slice A0_0 l0_0.length c0_0, .slice (some ad176) l0_1.length c0_1, .slice A0_2 l0_2.length c0_2] 32 (0, 0)) q4_ hb); have n3_ := Aside0.mk (blk_below (g := gb177) (o := .cells #[.int .i64 ((rd_T49 l0_1 x44_2).f0), .int .i64 ((rd_T49 l0_1 x44_2).f1)] 49 (0, 0)) q16_ hb); have n4_ := Aside0.mk (below_step q1_ hb); clear HO_5; clear BK168; clear BK177; clear HB; clear HO182; clear HO185; clear HO188; have HO_5 := n0_; have HO191 := n1_; have BK168 := n2_; have BK177 := n3_; have HB := n4_; clear n0_ n1_ n2_ n3_ n4_; clear hb ho41; obtain ⟨Ao43, co43, eo43⟩ := Kd.N_slice HO191.out; subst eo43) | ((with_reducible refine gate_builtin (b := .append) (xs := #[.tmp 61, .tmp 76]) rfl ?_); (try (refine gate_guard (by rfl) ?_; dsimp only)); at_builtin; refine Kd.N_append_rows (Kd.slice 3 (Kd.int .i64)) (w0 := w) w.heap.size rfl (.tmp 61) (.tmp 76) 54 30 (.slice none 0 0) 24 rfl Tryd.underlying54 info30 rfl q33_ q29_ u5 x5_2 y189 _ _ _ (fun k_ => (w.heap.size ≤ k_) ∧ k_ ≠ gb168 ∧ k_ ≠ gb177) (fun k_ => ((fun k_ => (w.heap.size ≤ k_) ∧ k_ ≠ gb168 ∧ k_ ≠ gb177)) k_ ∧ some k_ ≠ (u5 : Value).ownBlock) rfl rfl ?aO ?aR (fun _ hk => hk) ?aF ?aB ?aS ?aL ?_; (case aR => exact (by skip; exact Kd.N_F (Kd.N_mono (ok' := (fun k_ => ((fun k_ => (w.heap.size ≤ k_) ∧ k_ ≠ gb168 ∧ k_ ≠ gb177)) k_ ∧ some k_ ≠ (u5 : Value).ownBlock)) (HO191.out) (fun k_ hk => ⟨⟨hk.1, ⟨hk.2.2.1, hk.2.2.2⟩⟩, hk.2.1⟩)))); (case aB => exact q1_); (case aF => exact (fun k_ hk => ⟨(Nat.le_trans (below_size q1_) hk), Kd.freshB (g := gb168) (o := .cells #[.slice A0_0 l0_0.length c0_0, .slice (some ad176) l0_1.length c0_1, .slice A0_2 l0_2.length c0_2] 32 (0, 0)) q4_ k_ hk, Kd.freshB (g := gb177) (o := .cells #[.int .i64 ((rd_T49 l0_1 x44_2).f0), .int .i64 ((rd_T49 l0_1 x44_2).f1)] 49 (0, 0)) q16_ k_ hk⟩)); (case aO => exact (by (with_reducible repeat (first | apply Kd.N_alloc | apply Kd.N_drewN | apply Kd.N_drew)); exact Kd.N_mono HO_5.out (fun _ hk => ⟨hk.1.1.1.1.1.1, ⟨hk.1.1.1.1.1.2, hk.1.1.1.1.2⟩⟩))); (case aS => exact (below_size q1_)); (case aL => have := LMc26.out; omega); intro v193 w42 ho hb hg hat; rw [← Ny192.out] at ho; have n0_ := Aside0.mk (blk_grown (g := gb168) (o := .cells #[.slice A0_0 l0_0.length c0_0, .slice (some ad176) l0_1.length c0_1, .slice A0_2 l0_2.length c0_2] 32 (0, 0)) q4_ hg (Kd.N_ne HO_5.out BK168.out q33_)); have n1_ := Aside0.mk (blk_grown (g := gb177) (o := .cells #[.int .i64 ((rd_T49 l0_1 x44_2).f0), .int .i64 ((rd_T49 l0_1 x44_2).f1)] 49 (0, 0)) q16_ hg (Kd.N_ne HO_5.out BK177.out q33_)); have n2_ := Aside0.mk (Kd.N_afterv (ok := (fun k_ => (w.heap.size ≤ k_) ∧ k_ ≠ gb168 ∧ k_ ≠ gb177)) (by (with_reducible repeat (first | apply Kd.N_alloc | apply Kd.N_drewN | apply Kd.N_drew)); exact Kd.N_mono HO191.out (fun _ hk => ⟨⟨hk.1, ⟨hk.2.2.1, hk.2.2.2⟩⟩, hk.2.1⟩)) hg hat); have n3_ := Aside0.mk (hb); have n4_ := Aside0.mk (ho); clear BK168; clear BK177; clear HO191; clear HB; clear HO_5; have BK168 := n0_; have BK177 := n1_; have HO191 := n2_; have HB := n3_; have HO194 := n4_; clear n0_ n1_ n2_ n3_ n4_; clear ho hb hg hat)); try go_wp2_with (first | ((with_reducible refine gate_dst (N := 9) rfl ?_); (try (refine gate_guard (by rfl) ?_; dsimp only)); refine box_event ?hg (N := 9) ?hd (cs := #[.int .i64 0, .int .i64 0]) (t := 49) ?hr ?_; (case hd => rfl); (case hg => rfl); (case hr => first | (go_simp; done) | (go_simp; rfl)); intro gb177 hg w27 hbox hb; have n0_ := Aside0.mk (Kd.N_below (Kd.N_elderB q15_ gb177 (Nat.le_of_eq hg.symm)) hb); have n1_ := Aside0.mk (blk_below (g := gb168) (o := .cells #[.slice A0_0 l0_0.length c0_0, .slice (some ad176) l0_1.length c0_1, .slice A0_2 l0_2.length c0_2] 32 (0, 0)) q4_ hb); have n2_ := Aside0.mk (below_step q3_ hb); have n3_ := Aside0.mk (hbox); have n4_ := Aside0.mk ((by rw [hg]; exact (below_size q3_) : w.heap.size ≤ gb177)); have n5_ := Aside0.mk ((by rw [hg]; exact (below_size q3_) : w.heap.size ≤ gb177)); have n6_ := Aside0.mk ((by rw [hg]; exact Nat.ne_of_lt (blk_lt (g := gb168) (o := .cells #[.slice A0_0 l0_0.length c0_0, .slice (some ad176) l0_1.length c0_1, .slice A0_2 l0_2.length c0_2] 32 (0, 0)) q4_) : gb168 ≠ gb177)); have n7_ := Aside0.mk ((by rw [hg]; exact Nat.ne_of_gt (blk_lt (g := gb168) (o := .cells #[.slice A0_0 l0_0.length c0_0, .slice (some ad176) l0_1.length c0_1, .slice A0_2 l0_2.length c0_2] 32 (0, 0)) q4_) : gb177 ≠ gb168)); clear HO_5; clear BK168; clear HB; have HO_5 := n0_; have BK168 := n1_; have HB := n2_; have BK177 := n3_; have GW177 := n4_; have GE177 := n5_; have NB168_177 := n6_; have NB177_168 := n7_; clear n0_ n1_ n2_ n3_ n4_ n5_ n6_ n7_; clear hb hbox hg; have hnb28 := NB177_168.out; have hnc28 := NB168_177.out; have hcz29_0 : w27.cell? ⟨gb177, 0, none⟩ = some (.int .i64 0) := (blk_cell BK177.out 0).trans rfl; have hcz29_1 : w27.cell? ⟨gb177, 1, none⟩ = some (.int .i64 0) := (blk_cell BK177.out 1).trans rfl; have hfz29_0 := blk_frozen BK177.out 0; have hfz29_1 := blk_frozen BK177.out 1; have hcz30_0 : w27.cell? ⟨gb168, 0, none⟩ = some (.slice A0_0 l0_0.length c0_0) := (blk_cell BK168.out 0).trans rfl; have hcz30_1 : w27.cell? ⟨gb168, 1, none⟩ = some (.slice (some ad176) l0_1.length c0_1) := (blk_cell BK168.out 1).trans rfl; have hcz30_2 : w27.cell? ⟨gb168, 2, none⟩ = some (.slice A0_2 l0_2.length c0_2) := (blk_cell BK168.out 2).trans rfl; have hfz30_0 := blk_frozen BK168.out 0; have hfz30_1 := blk_frozen BK168.out 1; have hfz30_2 := blk_frozen BK168.out 2) | (go_at_call 41; (with_reducible refine (blast_literal.calls ((rd_T49 l0_1 x44_2).f0) t178 _ A24.out).mono ?_); rintro e w' ⟨rfl, ⟨nd, rfl⟩⟩; (try first | exact ⟨rfl, _, World.drewN_drewN _ _ _⟩ | exact ⟨rfl, _, Eq.trans (World.drewN_drewN _ _ _) (congrArg (World.drewN _) (Nat.add_assoc _ _ _))⟩)) | (go_at_call 41; (with_reducible refine (blast_literal.calls ((rd_T49 l0_1 x44_2).f1) t179 _ A25.out).mono ?_); rintro e w' ⟨rfl, ⟨nd, rfl⟩⟩; (try first | exact ⟨rfl, _, World.drewN_drewN _ _ _⟩ | exact ⟨rfl, _, Eq.trans (World.drewN_drewN _ _ _) (congrArg (World.drewN _) (Nat.add_assoc _ _ _))⟩)) | ((with_reducible refine gate_dst (N := 65) rfl ?_); (try (refine gate_guard (by rfl) ?_; dsimp only)); refine Kd.R_lit (Kd.int .i64) _ 3 ?hg (N := 65) ?hd (xs := ([wrap64 (-(wrap64 ((wrap64 (2 + (l0_0.length : Int))) + x44_2))), t178] : List Int)) (inner := [.int .i64 (wrap64 (-(wrap64 ((wrap64 (2 + (l0_0.length : Int))) + x44_2)))), .int .i64 t178]) (ok := fun _ => True) (okp := fun _ => True) ?hr ?hp (fun _ hk => hk) trivial (Below.refl _ _) (Nat.le_refl _) (by simp) ?_; (case hd => rfl); (case hg => rfl); (case hr => first | (go_simp; done) | (go_simp; rfl)); (case hp => exact (Reps.one (show Kd.M (Kd.int .i64) _ _ _ (wrap64 (-(wrap64 ((wrap64 (2 + (l0_0.length : Int))) + x44_2)))) [.int .i64 (wrap64 (-(wrap64 ((wrap64 (2 + (l0_0.length : Int))) + x44_2))))] from rfl) (Reps.one (show Kd.M (Kd.int .i64) _ _ _ t178 [.int .i64 t178] from rfl) (Reps.none _ _)))); intro v181 w31 ho32 hb hg_ hnew_; clear hg_ hnew_; (first | rw [← Ny180.out] at ho32 | (simp only [Int.reduceToNat] at ho32; rw [← Ny180.out] at ho32)); have n0_ := Aside0.mk (Kd.N_elder' q30_ (Kd.R_base ho32) hb); have n1_ := Aside0.mk (Kd.R_lower (Kd.R_newM (M := fun k_ => (w.heap.size ≤ k_)) ho32 (below_size q1_) (fun k_ h_ => h_)) (below_size q1_)); have n2_ := Aside0.mk (blk_below (g := gb168) (o := .cells #[.slice A0_0 l0_0.length c0_0, .slice (some ad176) l0_1.length c0_1, .slice A0_2 l0_2.length c0_2] 32 (0, 0)) q26_ hb); have n3_ := Aside0.mk (blk_below (g := gb177) (o := .cells #[.int .i64 ((rd_T49 l0_1 x44_2).f0), .int .i64 ((rd_T49 l0_1 x44_2).f1)] 49 (0, 0)) q23_ hb); have n4_ := Aside0.mk (below_step q1_ hb); clear HO_5; clear BK168; clear BK177; clear HB; have HO_5 := n0_; have HO182 := n1_; have BK168 := n2_; have BK177 := n3_; have HB := n4_; clear n0_ n1_ n2_ n3_ n4_; clear hb ho32) | ((with_reducible refine gate_dst (N := 69) rfl ?_); (try (refine gate_guard (by rfl) ?_; dsimp only)); refine Kd.R_lit (Kd.int .i64) _ 3 ?hg (N := 69) ?hd (xs := ([wrap64 (-(wrap64 ((wrap64 (2 + (l0_0.length : Int))) + x44_2))), t179] : List Int)) (inner := [.int .i64 (wrap64 (-(wrap64 ((wrap64 (2 + (l0_0.length : Int))) + x44_2)))), .int .i64 t179]) (ok := fun _ => True) (okp := fun _ => True) ?hr ?hp (fun _ hk => hk) trivial (Below.refl _ _) (Nat.le_refl _) (by simp) ?_; (case hd => rfl); (case hg => rfl); (case hr => first | (go_simp; done) | (go_simp; rfl)); (case hp => exact (Reps.one (show Kd.M (Kd.int .i64) _ _ _ (wrap64 (-(wrap64 ((wrap64 (2 + (l0_0.length : Int))) + x44_2)))) [.int .i64 (wrap64 (-(wrap64 ((wrap64 (2 + (l0_0.length : Int))) + x44_2))))] from rfl) (Reps.one (show Kd.M (Kd.int .i64) _ _ _ t179 [.int .i64 t179] from rfl) (Reps.none _ _)))); intro v184 w33 ho34 hb hg_ hnew_; clear hg_ hnew_; (first | rw [← Ny183.out] at ho34 | (simp only [Int.reduceToNat] at ho34; rw [← Ny183.out] at ho34)); have n0_ := Aside0.mk (Kd.N_elder' q15_ (Kd.R_base ho34) hb); have n1_ := Aside0.mk (Kd.R_elder' q25_ (Kd.R_base ho34) hb); have n2_ := Aside0.mk (Kd.R_lower (Kd.R_new' (Kd.R_newM (M := fun k_ => (w.heap.size ≤ k_)) ho34 (below_size q1_) (fun k_ h_ => h_)) (Kd.R_lt q25_)) (below_size q1_)); have n3_ := Aside0.mk (blk_below (g := gb168) (o := .cells #[.slice A0_0 l0_0.length c0_0, .slice (some ad176) l0_1.length c0_1, .slice A0_2 l0_2.length c0_2] 32 (0, 0)) q4_ hb); have n4_ := Aside0.mk (blk_below (g := gb177) (o := .cells #[.int .i64 ((rd_T49 l0_1 x44_2).f0), .int .i64 ((rd_T49 l0_1 x44_2).f1)] 49 (0, 0)) q16_ hb); have n5_ := Aside0.mk (below_step q1_ hb); clear HO_5; clear HO182; clear BK168; clear BK177; clear HB; have HO_5 := n0_; have HO182 := n1_; have HO185 := n2_; have BK168 := n3_; have BK177 := n4_; have HB := n5_; clear n0_ n1_ n2_ n3_ n4_ n5_; clear hb ho34) | ((with_reducible refine gate_dst (N := 75) rfl ?_); (try (refine gate_guard (by rfl) ?_; dsimp only)); refine Kd.R_lit (Kd.int .i64) _ 3 ?hg (N := 75) ?hd (xs := ([wrap64 ((wrap64 (2 + (l0_0.length : Int))) + x44_2), wrap64 (-t178), wrap64 (-t179)] : List Int)) (inner := [.int .i64 (wrap64 ((wrap64 (2 + (l0_0.length : Int))) + x44_2)), .int .i64 (wrap64 (-t178)), .int .i64 (wrap64 (-t179))]) (ok := fun _ => True) (okp := fun _ => True) ?hr ?hp (fun _ hk => hk) trivial (Below.refl _ _) (Nat.le_refl _) (by simp) ?_; (case hd => rfl); (case hg => rfl); (case hr => first | (go_simp; done) | (go_simp; rfl)); (case hp => exact (Reps.one (show Kd.M (Kd.int .i64) _ _ _ (wrap64 ((wrap64 (2 + (l0_0.length : Int))) + x44_2)) [.int .i64 (wrap64 ((wrap64 (2 + (l0_0.length : Int))) + x44_2))] from rfl) (Reps.one (show Kd.M (Kd.int .i64) _ _ _ (wrap64 (-t178)) [.int .i64 (wrap64 (-t178))] from rfl) (Reps.one (show Kd.M (Kd.int .i64) _ _ _ (wrap64 (-t179)) [.int .i64 (wrap64 (-t179))] from rfl) (Reps.none _ _))))); intro v187 w35 ho36 hb hg_ hnew_; clear hg_ hnew_; (first | rw [← Ny186.out] at ho36 | (simp only [Int.reduceToNat] at ho36; rw [← Ny186.out] at ho36)); have n0_ := Aside0.mk (Kd.N_elder' q15_ (Kd.R_base ho36) hb); have n1_ := Aside0.mk (Kd.R_elder' q25_ (Kd.R_base ho36) hb); have n2_ := Aside0.mk (Kd.R_elder' (by (with_reducible repeat (first | apply Kd.R_alloc | apply Kd.R_drewN | apply Kd.R_drew)); exact HO185.out) (Kd.R_base ho36) hb); have n3_ := Aside0.mk (Kd.R_lower (Kd.R_new' (Kd.R_new' (Kd.R_newM (M := fun k_ => (w.heap.size ≤ k_)) ho36 (below_size q1_) (fun k_ h_ => h_)) (Kd.R_lt q25_)) (Kd.R_lt (by (with_reducible repeat (first | apply Kd.R_alloc | apply Kd.R_drewN | apply Kd.R_drew)); exact HO185.out))) (below_size q1_)); have n4_ := Aside0.mk (blk_below (g := gb168) (o := .cells #[.slice A0_0 l0_0.length c0_0, .slice (some ad176) l0_1.length c0_1, .slice A0_2 l0_2.length c0_2] 32 (0, 0)) q4_ hb); have n5_ := Aside0.mk (blk_below (g := gb177) (o := .cells #[.int .i64 ((rd_T49 l0_1 x44_2).f0), .int .i64 ((rd_T49 l0_1 x44_2).f1)] 49 (0, 0)) q16_ hb); have n6_ := Aside0.mk (below_step q1_ hb); clear HO_5; clear HO182; clear HO185; clear BK168; clear BK177; clear HB; have HO_5 := n0_; have HO182 := n1_; have HO185 := n2_; have HO188 := n3_; have BK168 := n4_; have BK177 := n5_; have HB := n6_; clear n0_ n1_ n2_ n3_ n4_ n5_ n6_; clear hb ho36; obtain ⟨Ao37, co37, eo37⟩ := Kd.R_slice HO182.out; subst eo37; obtain ⟨Ao38, co38, eo38⟩ := Kd.R_slice HO185.out; subst eo38; obtain ⟨Ao39, co39, eo39⟩ := Kd.R_slice HO188.out; subst eo39) | ((with_reducible refine gate_dst (N := 76) rfl ?_); (try (refine gate_guard (by rfl) ?_; dsimp only)); refine Kd.N_lit (Kd.slice 3 (Kd.int .i64)) _ 30 ?hg (N' := 76) ?hd (xs := ([y180, y183, y186] : List (List Int))) (inner := [.slice Ao37 y180.length co37, .slice Ao38 y183.length co38, .slice Ao39 y186.length co39]) (ok := (fun k_ => (w.heap.size ≤ k_) ∧ some k_ ≠ (u5 : Value).ownBlock ∧ k_ ≠ gb168 ∧ k_ ≠ gb177)) (okp := (fun k_ => (w.heap.size ≤ k_) ∧ some k_ ≠ (u5 : Value).ownBlock ∧ k_ ≠ gb168 ∧ k_ ≠ gb177)) ?hr ?hp (fun _ hk => hk) ((show ∀ k_, w35.heap.size ≤ k_ → (fun k_ => (w.heap.size ≤ k_) ∧ some k_ ≠ (u5 : Value).ownBlock ∧ k_ ≠ gb168 ∧ k_ ≠ gb177) k_ from fun k_ hk => ⟨(Nat.le_trans (below_size q1_) hk), Kd.fresh' (Kd.N_lt q15_) k_ hk, Kd.freshB (g := gb168) (o := .cells #[.slice A0_0 l0_0.length c0_0, .slice (some ad176) l0_1.length c0_1, .slice A0_2 l0_2.length c0_2] 32 (0, 0)) q4_ k_ hk, Kd.freshB (g := gb177) (o := .cells #[.int .i64 ((rd_T49 l0_1 x44_2).f0), .int .i64 ((rd_T49 l0_1 x44_2).f1)] 49 (0, 0)) q16_ k_ hk⟩) _ (Nat.le_refl _)) (Below.refl _ _) (Nat.le_refl _) (by simp) ?_; (case hd => rfl); (case hg => rfl); (case hr => first | (go_simp; done) | (go_simp; rfl)); (case hp => exact (Reps.one (show Kd.FK (Kd.slice 3 (Kd.int .i64)) _ _ y180 [.slice Ao37 y180.length co37] from (Kd.FK_slice_mk (Kd.R_reads' (Kd.R_mono (ok' := (fun k_ => (w.heap.size ≤ k_) ∧ some k_ ≠ (u5 : Value).ownBlock ∧ k_ ≠ gb168 ∧ k_ ≠ gb177)) (Kd.R_types (Kd.R_types (Kd.R_apart' (HO182.out) (Kd.N_typed HO_5.out) q33_) BK168.out q33_) BK177.out q33_) (fun k_ hk => ⟨hk.1.1.1.1.1.1, ⟨hk.1.1.2, ⟨hk.1.2, hk.2⟩⟩⟩))).2.1 (Kd.R_F (Kd.R_mono (ok' := (fun k_ => (w.heap.size ≤ k_) ∧ some k_ ≠ (u5 : Value).ownBlock ∧ k_ ≠ gb168 ∧ k_ ≠ gb177)) (Kd.R_types (Kd.R_types (Kd.R_apart' (HO182.out) (Kd.N_typed HO_5.out) q33_) BK168.out q33_) BK177.out q33_) (fun k_ hk => ⟨hk.1.1.1.1.1.1, ⟨hk.1.1.2, ⟨hk.1.2, hk.2⟩⟩⟩))))) (Reps.one (show Kd.FK (Kd.slice 3 (Kd.int .i64)) _ _ y183 [.slice Ao38 y183.length co38] from (Kd.FK_slice_mk (Kd.R_reads' (Kd.R_mono (ok' := (fun k_ => (w.heap.size ≤ k_) ∧ some k_ ≠ (u5 : Value).ownBlock ∧ k_ ≠ gb168 ∧ k_ ≠ gb177)) (Kd.R_types (Kd.R_types (Kd.R_apart' (HO185.out) (Kd.N_typed HO_5.out) q33_) BK168.out q33_) BK177.out q33_) (fun k_ hk => ⟨hk.1.1.1.1.1.1, ⟨hk.1.1.2, ⟨hk.1.2, hk.2⟩⟩⟩))).2.1 (Kd.R_F (Kd.R_mono (ok' := (fun k_ => (w.heap.size ≤ k_) ∧ some k_ ≠ (u5 : Value).ownBlock ∧ k_ ≠ gb168 ∧ k_ ≠ gb177)) (Kd.R_types (Kd.R_types (Kd.R_apart' (HO185.out) (Kd.N_typed HO_5.out) q33_) BK168.out q33_) BK177.out q33_) (fun k_ hk => ⟨hk.1.1.1.1.1.1, ⟨hk.1.1.2, ⟨hk.1.2, hk.2⟩⟩⟩))))) (Reps.one (show Kd.FK (Kd.slice 3 (Kd.int .i64)) _ _ y186 [.slice Ao39 y186.length co39] from (Kd.FK_slice_mk (Kd.R_reads' (Kd.R_mono (ok' := (fun k_ => (w.heap.size ≤ k_) ∧ some k_ ≠ (u5 : Value).ownBlock ∧ k_ ≠ gb168 ∧ k_ ≠ gb177)) (Kd.R_types (Kd.R_types (Kd.R_apart' (HO188.out) (Kd.N_typed HO_5.out) q33_) BK168.out q33_) BK177.out q33_) (fun k_ hk => ⟨hk.1.1.1.1.1.1, ⟨hk.1.1.2, ⟨hk.1.2, hk.2⟩⟩⟩))).2.1 (Kd.R_F (Kd.R_mono (ok' := (fun k_ => (w.heap.size ≤ k_) ∧ some k_ ≠ (u5 : Value).ownBlock ∧ k_ ≠ gb168 ∧ k_ ≠ gb177)) (Kd.R_types (Kd.R_types (Kd.R_apart' (HO188.out) (Kd.N_typed HO_5.out) q33_) BK168.out q33_) BK177.out q33_) (fun k_ hk => ⟨hk.1.1.1.1.1.1, ⟨hk.1.1.2, ⟨hk.1.2, hk.2⟩⟩⟩))))) (Reps.none _ _))))); intro v190 w40 ho41 hb hg_ hnew_; clear hg_ hnew_; (first | rw [← Ny189.out] at ho41 | (simp only [Int.reduceToNat] at ho41; rw [← Ny189.out] at ho41)); have n0_ := Aside0.mk (Kd.N_elder' q15_ (Kd.N_base ho41) hb); have n1_ := Aside0.mk (Kd.N_lower ho41 (below_size q1_)); have n2_ := Aside0.mk (blk_below (g := gb168) (o := .cells #[.slice A0_0 l0_0.length c0_0, .slice (some ad176) l0_1.length c0_1, .slice A0_2 l0_2.length c0_2] 32 (0, 0)) q4_ hb); have n3_ := Aside0.mk (blk_below (g := gb177) (o := .cells #[.int .i64 ((rd_T49 l0_1 x44_2).f0), .int .i64 ((rd_T49 l0_1 x44_2).f1)] 49 (0, 0)) q16_ hb); have n4_ := Aside0.mk (below_step q1_ hb); clear HO_5; clear BK168; clear BK177; clear HB; clear HO182; clear HO185; clear HO188; have HO_5 := n0_; have HO191 := n1_; have BK168 := n2_; have BK177 := n3_; have HB := n4_; clear n0_ n1_ n2_ n3_ n4_; clear hb ho41; obtain ⟨Ao43, co43, eo43⟩ := Kd.N_slice HO191.out; subst eo43) | ((with_reducible refine gate_builtin (b := .append) (xs := #[.tmp 61, .tmp 76]) rfl ?_); (try (refine gate_guard (by rfl) ?_; dsimp only)); at_builtin; refine Kd.N_append_rows (Kd.slice 3 (Kd.int .i64)) (w0 := w) w.heap.size rfl (.tmp 61) (.tmp 76) 54 30 (.slice none 0 0) 24 rfl Tryd.underlying54 info30 rfl q33_ q29_ u5 x5_2 y189 _ _ _ (fun k_ => (w.heap.size ≤ k_) ∧ k_ ≠ gb168 ∧ k_ ≠ gb177) (fun k_ => ((fun k_ => (w.heap.size ≤ k_) ∧ k_ ≠ gb168 ∧ k_ ≠ gb177)) k_ ∧ some k_ ≠ (u5 : Value).ownBlock) rfl rfl ?aO ?aR (fun _ hk => hk) ?aF ?aB ?aS ?aL ?_; (case aR => exact (by skip; exact Kd.N_F (Kd.N_mono (ok' := (fun k_ => ((fun k_ => (w.heap.size ≤ k_) ∧ k_ ≠ gb168 ∧ k_ ≠ gb177)) k_ ∧ some k_ ≠ (u5 : Value).ownBlock)) (HO191.out) (fun k_ hk => ⟨⟨hk.1, ⟨hk.2.2.1, hk.2.2.2⟩⟩, hk.2.1⟩)))); (case aB => exact q1_); (case aF => exact (fun k_ hk => ⟨(Nat.le_trans (below_size q1_) hk), Kd.freshB (g := gb168) (o := .cells #[.slice A0_0 l0_0.length c0_0, .slice (some ad176) l0_1.length c0_1, .slice A0_2 l0_2.length c0_2] 32 (0, 0)) q4_ k_ hk, Kd.freshB (g := gb177) (o := .cells #[.int .i64 ((rd_T49 l0_1 x44_2).f0), .int .i64 ((rd_T49 l0_1 x44_2).f1)] 49 (0, 0)) q16_ k_ hk⟩)); (case aO => exact (by (with_reducible repeat (first | apply Kd.N_alloc | apply Kd.N_drewN | apply Kd.N_drew)); exact Kd.N_mono HO_5.out (fun _ hk => ⟨hk.1.1.1.1.1.1, ⟨hk.1.1.1.1.1.2, hk.1.1.1.1.2⟩⟩))); (case aS => exact (below_size q1_)); (case aL => have := LMc26.out; omega); intro v193 w42 ho hb hg hat; rw [← Ny192.out] at ho; have n0_ := Aside0.mk (blk_grown (g := gb168) (o := .cells #[.slice A0_0 l0_0.length c0_0, .slice (some ad176) l0_1.length c0_1, .slice A0_2 l0_2.length c0_2] 32 (0, 0)) q4_ hg (Kd.N_ne HO_5.out BK168.out q33_)); have n1_ := Aside0.mk (blk_grown (g := gb177) (o := .cells #[.int .i64 ((rd_T49 l0_1 x44_2).f0), .int .i64 ((rd_T49 l0_1 x44_2).f1)] 49 (0, 0)) q16_ hg (Kd.N_ne HO_5.out BK177.out q33_)); have n2_ := Aside0.mk (Kd.N_afterv (ok := (fun k_ => (w.heap.size ≤ k_) ∧ k_ ≠ gb168 ∧ k_ ≠ gb177)) (by (with_reducible repeat (first | apply Kd.N_alloc | apply Kd.N_drewN | apply Kd.N_drew)); exact Kd.N_mono HO191.out (fun _ hk => ⟨⟨hk.1, ⟨hk.2.2.1, hk.2.2.2⟩⟩, hk.2.1⟩)) hg hat); have n3_ := Aside0.mk (hb); have n4_ := Aside0.mk (ho); clear BK168; clear BK177; clear HO191; clear HB; clear HO_5; have BK168 := n0_; have BK177 := n1_; have HO191 := n2_; have HB := n3_; have HO194 := n4_; clear n0_ n1_ n2_ n3_ n4_; clear ho hb hg hat)))
             go_roundg k2
             case measure => have := HJ4.out; have := HK2.out; omega
             case rel => exact ⟨(y192), (wrap64 (x44_2 + 1)), q10_, H', ⟨by have := HJ4.out; have := HK2.out; omega⟩, ⟨by (with_reducible repeat (first | apply Kd.N_alloc | apply Kd.N_drewN | apply Kd.N_drew)); exact Kd.N_mono HO194.out (fun _ hk => ⟨hk.1, hk.2.1⟩)⟩, ⟨by (with_reducible repeat (first | refine blk_drewN ?_ _ | refine blk_drew ?_ | refine blk_alloc ?_ _)); exact BK168.out⟩, ⟨by repeat (first | (with_reducible first | exact HB.out | apply below_alloc | apply pw_below_drewN | apply below_drew1 | refine below_set ?_ GE168.out | refine below_set ?_ GE177.out) | exact HB.out)⟩⟩
            ·rw [if_neg c26] at H
             exact absurd H (by simp)
           ·rw [if_neg c23] at H
            exact absurd H (by simp)
          ·rw [if_neg c22] at H
           exact absurd H (by simp)
         ·rw [if_neg c21] at H
          have c21b0 : decide (x44_2 < (l0_1.length : Int)) = false := decide_eq_false c21
          clear c21
          by_cases c44 : 0 ≤ a1
          ·rw [if_pos c44] at H
           have c44b0 : decide (0 ≤ a1) = true := decide_eq_true c44
           clear c44
           by_cases c45 : a1 < (l0_2.length : Int)
           ·rw [if_pos c45] at H
            have c45b0 : decide (a1 < (l0_2.length : Int)) = true := decide_eq_true c45
            clear c45
            replace H := Option.bind_eq_some_iff.mp H
            obtain ⟨t196, A460, H⟩ := H
            replace H : (if x5_2.length < 5864062014805 then (some ((wrap64 ((wrap64 (1 + (l0_0.length : Int))) + (l0_1.length : Int))), (x5_2 ++ [(([t196] : List Int))]), 0)) else (none)) = some (r1, r2, r3) := H
            have A46 := Aside0.mk A460
            clear A460
            obtain ⟨y197, hy197⟩ : ∃ y_ : List Int, y_ = (([t196] : List Int)) := ⟨_, rfl⟩
            replace H : (if x5_2.length < 5864062014805 then (some ((wrap64 ((wrap64 (1 + (l0_0.length : Int))) + (l0_1.length : Int))), (x5_2 ++ [y197]), 0)) else (none)) = some (r1, r2, r3) := by first | (rw [hy197]; with_reducible exact H) | (have H2_ := (Option.bind_some _ _).symm.trans H; rw [hy197]; with_reducible exact H2_) | (have H2_ := (Option.bind_some _ _).symm.trans H; with_reducible exact H2_) | with_reducible exact H | (rw [hy197]; exact H) | exact H
            have Ny197 := Aside0.mk hy197
            clear hy197
            by_cases c47 : x5_2.length < 5864062014805
            ·rw [if_pos c47] at H
             have LMc47 := Aside0.mk c47
             clear c47
             obtain ⟨y200, hy200⟩ : ∃ y_ : List (List Int), y_ = (x5_2 ++ [y197]) := ⟨_, rfl⟩
             replace H : (some ((wrap64 ((wrap64 (1 + (l0_0.length : Int))) + (l0_1.length : Int))), y200, 0)) = some (r1, r2, r3) := by first | (rw [hy200]; with_reducible exact H) | (have H2_ := (Option.bind_some _ _).symm.trans H; rw [hy200]; with_reducible exact H2_) | (have H2_ := (Option.bind_some _ _).symm.trans H; with_reducible exact H2_) | with_reducible exact H | (rw [hy200]; exact H) | exact H
             have Ny200 := Aside0.mk hy200
             clear hy200
             simp only [Option.some.injEq, Prod.mk.injEq] at H
             obtain ⟨rfl, rfl, rfl⟩ := H
             have hcz48_0 : wr.cell? ⟨gb168, 0, none⟩ = some (.slice A0_0 l0_0.length c0_0) := (blk_cell BK168.out 0).trans rfl
             have hcz48_1 : wr.cell? ⟨gb168, 1, none⟩ = some (.slice A0_1 l0_1.length c0_1) := (blk_cell BK168.out 1).trans rfl
             have hcz48_2 : wr.cell? ⟨gb168, 2, none⟩ = some (.slice A0_2 l0_2.length c0_2) := (blk_cell BK168.out 2).trans rfl
             have hfz48_0 := blk_frozen BK168.out 0
             have hfz48_1 := blk_frozen BK168.out 1
             have hfz48_2 := blk_frozen BK168.out 2
             have p195 : 0 ≤ (a1 : Int) := of_decide_eq_true q2_
             have q195 : a1 < (l0_2.length : Int) := of_decide_eq_true q2_
             obtain ⟨ad195, e195, hx195_0⟩ := Kd.at_int HR0_2.out a1 p195 q195
             cases e195
             replace hx195_0 := (HB.out.cell (World.block_lt_of_cell? w _ hx195_0)).trans hx195_0
             replace p195 := eq_true p195
             replace q195 := eq_true q195
             go_wp2_with (first | (go_at_call 41; (with_reducible refine (blast_literal.calls (rd l0_2 a1) t196 _ A46.out).mono ?_); rintro e w' ⟨rfl, ⟨nd, rfl⟩⟩; (try first | exact ⟨rfl, _, World.drewN_drewN _ _ _⟩ | exact ⟨rfl, _, Eq.trans (World.drewN_drewN _ _ _) (congrArg (World.drewN _) (Nat.add_assoc _ _ _))⟩)) | ((with_reducible refine gate_dst (N := 87) rfl ?_); (try (refine gate_guard (by rfl) ?_; dsimp only)); refine Kd.R_lit (Kd.int .i64) _ 3 ?hg (N := 87) ?hd (xs := ([t196] : List Int)) (inner := [.int .i64 t196]) (ok := fun _ => True) (okp := fun _ => True) ?hr ?hp (fun _ hk => hk) trivial (Below.refl _ _) (Nat.le_refl _) (by simp) ?_; (case hd => rfl); (case hg => rfl); (case hr => first | (go_simp; done) | (go_simp; rfl)); (case hp => exact (Reps.one (show Kd.M (Kd.int .i64) _ _ _ t196 [.int .i64 t196] from rfl) (Reps.none _ _))); intro v198 w49 ho50 hb hg_ hnew_; clear hg_ hnew_; (first | rw [← Ny197.out] at ho50 | (simp only [Int.reduceToNat] at ho50; rw [← Ny197.out] at ho50)); have n0_ := Aside0.mk (Kd.N_elder' q15_ (Kd.R_base ho50) hb); have n1_ := Aside0.mk (Kd.R_lower (Kd.R_newM (M := fun k_ => (w.heap.size ≤ k_)) ho50 (below_size q3_) (fun k_ h_ => h_)) (below_size q3_)); have n2_ := Aside0.mk (blk_below (g := gb168) (o := .cells #[.slice A0_0 l0_0.length c0_0, .slice A0_1 l0_1.length c0_1, .slice (some ad195) l0_2.length c0_2] 32 (0, 0)) q4_ hb); have n3_ := Aside0.mk (below_step q3_ hb); clear HO_5; clear BK168; clear HB; have HO_5 := n0_; have HO199 := n1_; have BK168 := n2_; have HB := n3_; clear n0_ n1_ n2_ n3_; clear hb ho50; obtain ⟨Ao52, co52, eo52⟩ := Kd.R_slice HO199.out; subst eo52) | ((with_reducible refine gate_builtin (b := .append) (xs := #[.tmp 80, .tmp 88]) rfl ?_); (try (refine gate_guard (by rfl) ?_; dsimp only)); at_builtin; refine Kd.N_append (Kd.slice 3 (Kd.int .i64)) (w0 := w) w.heap.size rfl (.tmp 80) (.tmp 88) 54 30 (.slice none 0 0) 24 rfl Tryd.underlying54 info30 rfl q33_ q29_ u5 x5_2 y197 [.slice Ao52 y197.length co52] (fun k_ => (w.heap.size ≤ k_) ∧ k_ ≠ gb168) (fun k_ => ((fun k_ => (w.heap.size ≤ k_) ∧ k_ ≠ gb168)) k_ ∧ some k_ ≠ (u5 : Value).ownBlock) rfl rfl ?aP (fun _ hk => hk) ?aF ?aO ?aB ?aS ?aL ?_; (case aP => exact (Kd.FK_slice_mk (Kd.R_reads' (Kd.R_mono (ok' := (fun k_ => ((fun k_ => (w.heap.size ≤ k_) ∧ k_ ≠ gb168)) k_ ∧ some k_ ≠ (u5 : Value).ownBlock)) (Kd.R_types (Kd.R_apart' (HO199.out) (Kd.N_typed HO_5.out) q33_) BK168.out q33_) (fun k_ hk => ⟨⟨hk.1.1.1, hk.2⟩, hk.1.2⟩))).2.1 (Kd.R_F (Kd.R_mono (ok' := (fun k_ => ((fun k_ => (w.heap.size ≤ k_) ∧ k_ ≠ gb168)) k_ ∧ some k_ ≠ (u5 : Value).ownBlock)) (Kd.R_types (Kd.R_apart' (HO199.out) (Kd.N_typed HO_5.out) q33_) BK168.out q33_) (fun k_ hk => ⟨⟨hk.1.1.1, hk.2⟩, hk.1.2⟩))))); (case aB => exact q3_); (case aF => exact (fun k_ hk => ⟨(Nat.le_trans (below_size q3_) hk), Kd.freshB (g := gb168) (o := .cells #[.slice A0_0 l0_0.length c0_0, .slice A0_1 l0_1.length c0_1, .slice (some ad195) l0_2.length c0_2] 32 (0, 0)) q4_ k_ hk⟩)); (case aO => exact q35_); (case aS => exact (below_size q3_)); (case aL => have := LMc47.out; omega); intro v201 w51 ho hb hg hat; rw [← Ny200.out] at ho; have n0_ := Aside0.mk (blk_grown (g := gb168) (o := .cells #[.slice A0_0 l0_0.length c0_0, .slice A0_1 l0_1.length c0_1, .slice (some ad195) l0_2.length c0_2] 32 (0, 0)) q4_ hg (Kd.N_ne HO_5.out BK168.out q33_)); have n1_ := Aside0.mk (hb); have n2_ := Aside0.mk (ho); clear BK168; clear HB; clear HO_5; clear HO199; have BK168 := n0_; have HB := n1_; have HO202 := n2_; clear n0_ n1_ n2_; clear ho hb hg hat))
             repeat (go_quiet (first | (go_at_call 41; (with_reducible refine (blast_literal.calls (rd l0_2 a1) t196 _ A46.out).mono ?_); rintro e w' ⟨rfl, ⟨nd, rfl⟩⟩; (try first | exact ⟨rfl, _, World.drewN_drewN _ _ _⟩ | exact ⟨rfl, _, Eq.trans (World.drewN_drewN _ _ _) (congrArg (World.drewN _) (Nat.add_assoc _ _ _))⟩)) | ((with_reducible refine gate_dst (N := 87) rfl ?_); (try (refine gate_guard (by rfl) ?_; dsimp only)); refine Kd.R_lit (Kd.int .i64) _ 3 ?hg (N := 87) ?hd (xs := ([t196] : List Int)) (inner := [.int .i64 t196]) (ok := fun _ => True) (okp := fun _ => True) ?hr ?hp (fun _ hk => hk) trivial (Below.refl _ _) (Nat.le_refl _) (by simp) ?_; (case hd => rfl); (case hg => rfl); (case hr => first | (go_simp; done) | (go_simp; rfl)); (case hp => exact (Reps.one (show Kd.M (Kd.int .i64) _ _ _ t196 [.int .i64 t196] from rfl) (Reps.none _ _))); intro v198 w49 ho50 hb hg_ hnew_; clear hg_ hnew_; (first | rw [← Ny197.out] at ho50 | (simp only [Int.reduceToNat] at ho50; rw [← Ny197.out] at ho50)); have n0_ := Aside0.mk (Kd.N_elder' q15_ (Kd.R_base ho50) hb); have n1_ := Aside0.mk (Kd.R_lower (Kd.R_newM (M := fun k_ => (w.heap.size ≤ k_)) ho50 (below_size q3_) (fun k_ h_ => h_)) (below_size q3_)); have n2_ := Aside0.mk (blk_below (g := gb168) (o := .cells #[.slice A0_0 l0_0.length c0_0, .slice A0_1 l0_1.length c0_1, .slice (some ad195) l0_2.length c0_2] 32 (0, 0)) q4_ hb); have n3_ := Aside0.mk (below_step q3_ hb); clear HO_5; clear BK168; clear HB; have HO_5 := n0_; have HO199 := n1_; have BK168 := n2_; have HB := n3_; clear n0_ n1_ n2_ n3_; clear hb ho50; obtain ⟨Ao52, co52, eo52⟩ := Kd.R_slice HO199.out; subst eo52) | ((with_reducible refine gate_builtin (b := .append) (xs := #[.tmp 80, .tmp 88]) rfl ?_); (try (refine gate_guard (by rfl) ?_; dsimp only)); at_builtin; refine Kd.N_append (Kd.slice 3 (Kd.int .i64)) (w0 := w) w.heap.size rfl (.tmp 80) (.tmp 88) 54 30 (.slice none 0 0) 24 rfl Tryd.underlying54 info30 rfl q33_ q29_ u5 x5_2 y197 [.slice Ao52 y197.length co52] (fun k_ => (w.heap.size ≤ k_) ∧ k_ ≠ gb168) (fun k_ => ((fun k_ => (w.heap.size ≤ k_) ∧ k_ ≠ gb168)) k_ ∧ some k_ ≠ (u5 : Value).ownBlock) rfl rfl ?aP (fun _ hk => hk) ?aF ?aO ?aB ?aS ?aL ?_; (case aP => exact (Kd.FK_slice_mk (Kd.R_reads' (Kd.R_mono (ok' := (fun k_ => ((fun k_ => (w.heap.size ≤ k_) ∧ k_ ≠ gb168)) k_ ∧ some k_ ≠ (u5 : Value).ownBlock)) (Kd.R_types (Kd.R_apart' (HO199.out) (Kd.N_typed HO_5.out) q33_) BK168.out q33_) (fun k_ hk => ⟨⟨hk.1.1.1, hk.2⟩, hk.1.2⟩))).2.1 (Kd.R_F (Kd.R_mono (ok' := (fun k_ => ((fun k_ => (w.heap.size ≤ k_) ∧ k_ ≠ gb168)) k_ ∧ some k_ ≠ (u5 : Value).ownBlock)) (Kd.R_types (Kd.R_apart' (HO199.out) (Kd.N_typed HO_5.out) q33_) BK168.out q33_) (fun k_ hk => ⟨⟨hk.1.1.1, hk.2⟩, hk.1.2⟩))))); (case aB => exact q3_); (case aF => exact (fun k_ hk => ⟨(Nat.le_trans (below_size q3_) hk), Kd.freshB (g := gb168) (o := .cells #[.slice A0_0 l0_0.length c0_0, .slice A0_1 l0_1.length c0_1, .slice (some ad195) l0_2.length c0_2] 32 (0, 0)) q4_ k_ hk⟩)); (case aO => exact q35_); (case aS => exact (below_size q3_)); (case aL => have := LMc47.out; omega); intro v201 w51 ho hb hg hat; rw [← Ny200.out] at ho; have n0_ := Aside0.mk (blk_grown (g := gb168) (o := .cells #[.slice A0_0 l0_0.length c0_0, .slice A0_1 l0_1.length c0_1, .slice (some ad195) l0_2.length c0_2] 32 (0, 0)) q4_ hg (Kd.N_ne HO_5.out BK168.out q33_)); have n1_ := Aside0.mk (hb); have n2_ := Aside0.mk (ho); clear BK168; clear HB; clear HO_5; clear HO199; have BK168 := n0_; have HB := n1_; have HO202 := n2_; clear n0_ n1_ n2_; clear ho hb hg hat)); try go_wp2_with (first | (go_at_call 41; (with_reducible refine (blast_literal.calls (rd l0_2 a1) t196 _ A46.out).mono ?_); rintro e w' ⟨rfl, ⟨nd, rfl⟩⟩; (try first | exact ⟨rfl, _, World.drewN_drewN _ _ _⟩ | exact ⟨rfl, _, Eq.trans (World.drewN_drewN _ _ _) (congrArg (World.drewN _) (Nat.add_assoc _ _ _))⟩)) | ((with_reducible refine gate_dst (N := 87) rfl ?_); (try (refine gate_guard (by rfl) ?_; dsimp only)); refine Kd.R_lit (Kd.int .i64) _ 3 ?hg (N := 87) ?hd (xs := ([t196] : List Int)) (inner := [.int .i64 t196]) (ok := fun _ => True) (okp := fun _ => True) ?hr ?hp (fun _ hk => hk) trivial (Below.refl _ _) (Nat.le_refl _) (by simp) ?_; (case hd => rfl); (case hg => rfl); (case hr => first | (go_simp; done) | (go_simp; rfl)); (case hp => exact (Reps.one (show Kd.M (Kd.int .i64) _ _ _ t196 [.int .i64 t196] from rfl) (Reps.none _ _))); intro v198 w49 ho50 hb hg_ hnew_; clear hg_ hnew_; (first | rw [← Ny197.out] at ho50 | (simp only [Int.reduceToNat] at ho50; rw [← Ny197.out] at ho50)); have n0_ := Aside0.mk (Kd.N_elder' q15_ (Kd.R_base ho50) hb); have n1_ := Aside0.mk (Kd.R_lower (Kd.R_newM (M := fun k_ => (w.heap.size ≤ k_)) ho50 (below_size q3_) (fun k_ h_ => h_)) (below_size q3_)); have n2_ := Aside0.mk (blk_below (g := gb168) (o := .cells #[.slice A0_0 l0_0.length c0_0, .slice A0_1 l0_1.length c0_1, .slice (some ad195) l0_2.length c0_2] 32 (0, 0)) q4_ hb); have n3_ := Aside0.mk (below_step q3_ hb); clear HO_5; clear BK168; clear HB; have HO_5 := n0_; have HO199 := n1_; have BK168 := n2_; have HB := n3_; clear n0_ n1_ n2_ n3_; clear hb ho50; obtain ⟨Ao52, co52, eo52⟩ := Kd.R_slice HO199.out; subst eo52) | ((with_reducible refine gate_builtin (b := .append) (xs := #[.tmp 80, .tmp 88]) rfl ?_); (try (refine gate_guard (by rfl) ?_; dsimp only)); at_builtin; refine Kd.N_append (Kd.slice 3 (Kd.int .i64)) (w0 := w) w.heap.size rfl (.tmp 80) (.tmp 88) 54 30 (.slice none 0 0) 24 rfl Tryd.underlying54 info30 rfl q33_ q29_ u5 x5_2 y197 [.slice Ao52 y197.length co52] (fun k_ => (w.heap.size ≤ k_) ∧ k_ ≠ gb168) (fun k_ => ((fun k_ => (w.heap.size ≤ k_) ∧ k_ ≠ gb168)) k_ ∧ some k_ ≠ (u5 : Value).ownBlock) rfl rfl ?aP (fun _ hk => hk) ?aF ?aO ?aB ?aS ?aL ?_; (case aP => exact (Kd.FK_slice_mk (Kd.R_reads' (Kd.R_mono (ok' := (fun k_ => ((fun k_ => (w.heap.size ≤ k_) ∧ k_ ≠ gb168)) k_ ∧ some k_ ≠ (u5 : Value).ownBlock)) (Kd.R_types (Kd.R_apart' (HO199.out) (Kd.N_typed HO_5.out) q33_) BK168.out q33_) (fun k_ hk => ⟨⟨hk.1.1.1, hk.2⟩, hk.1.2⟩))).2.1 (Kd.R_F (Kd.R_mono (ok' := (fun k_ => ((fun k_ => (w.heap.size ≤ k_) ∧ k_ ≠ gb168)) k_ ∧ some k_ ≠ (u5 : Value).ownBlock)) (Kd.R_types (Kd.R_apart' (HO199.out) (Kd.N_typed HO_5.out) q33_) BK168.out q33_) (fun k_ hk => ⟨⟨hk.1.1.1, hk.2⟩, hk.1.2⟩))))); (case aB => exact q3_); (case aF => exact (fun k_ hk => ⟨(Nat.le_trans (below_size q3_) hk), Kd.freshB (g := gb168) (o := .cells #[.slice A0_0 l0_0.length c0_0, .slice A0_1 l0_1.length c0_1, .slice (some ad195) l0_2.length c0_2] 32 (0, 0)) q4_ k_ hk⟩)); (case aO => exact q35_); (case aS => exact (below_size q3_)); (case aL => have := LMc47.out; omega); intro v201 w51 ho hb hg hat; rw [← Ny200.out] at ho; have n0_ := Aside0.mk (blk_grown (g := gb168) (o := .cells #[.slice A0_0 l0_0.length c0_0, .slice A0_1 l0_1.length c0_1, .slice (some ad195) l0_2.length c0_2] 32 (0, 0)) q4_ hg (Kd.N_ne HO_5.out BK168.out q33_)); have n1_ := Aside0.mk (hb); have n2_ := Aside0.mk (ho); clear BK168; clear HB; clear HO_5; clear HO199; have BK168 := n0_; have HB := n1_; have HO202 := n2_; clear n0_ n1_ n2_; clear ho hb hg hat)))
             go_ret3
             exact ⟨_, by first | rfl | (simp [errW_none, errW_some] <;> rfl) | (simp [*, errW_none, errW_some] <;> rfl), by (with_reducible repeat (first | apply Kd.N_alloc | apply Kd.N_drewN | apply Kd.N_drew)); exact Kd.N_mono HO202.out (fun _ hk => hk.1), by repeat (first | (with_reducible first | exact HB.out | apply below_alloc | apply pw_below_drewN | apply below_drew1 | refine below_set ?_ GE168.out) | exact HB.out)⟩
            ·rw [if_neg c47] at H
             exact absurd H (by simp)
           ·rw [if_neg c45] at H
            exact absurd H (by simp)
          ·rw [if_neg c44] at H
           exact absurd H (by simp)
      ·rw [if_neg c14] at H
       exact absurd H (by simp)
 ·rw [if_neg c4] at H
  have c4b0 : (t169 == 0) = false := beq_eq_false_iff_ne.mpr c4
  have c4b1 : (t169 != 0) = true := bne_iff_ne.mpr c4
  simp only [Option.some.injEq, Prod.mk.injEq] at H
  obtain ⟨rfl, rfl, rfl⟩ := H
  go_enter Tryd.func17, Tryd.ntmps17
  go_wp2_with (first | ((with_reducible refine gate_dst (N := 2) rfl ?_); (try (refine gate_guard (by rfl) ?_; dsimp only)); refine box_event ?hg (N := 2) ?hd (cs := #[.slice A0_0 l0_0.length c0_0, .slice A0_1 l0_1.length c0_1, .slice A0_2 l0_2.length c0_2]) (t := 32) ?hr ?_; (case hd => rfl); (case hg => rfl); (case hr => first | (go_simp; done) | (go_simp; rfl)); intro gb168 hg w53 hbox hb; have n0_ := Aside0.mk (below_step q0_ hb); have n1_ := Aside0.mk (hbox); have n2_ := Aside0.mk ((by rw [hg]; exact (below_size q0_) : w.heap.size ≤ gb168)); have n3_ := Aside0.mk ((by rw [hg]; exact (below_size q0_) : w.heap.size ≤ gb168)); clear HB; have HB := n0_; have BK168 := n1_; have GW168 := n2_; have GE168 := n3_; clear n0_ n1_ n2_ n3_; clear hb hbox hg; have hcz54_0 : w53.cell? ⟨gb168, 0, none⟩ = some (.slice A0_0 l0_0.length c0_0) := (blk_cell BK168.out 0).trans rfl; have hcz54_1 : w53.cell? ⟨gb168, 1, none⟩ = some (.slice A0_1 l0_1.length c0_1) := (blk_cell BK168.out 1).trans rfl; have hcz54_2 : w53.cell? ⟨gb168, 2, none⟩ = some (.slice A0_2 l0_2.length c0_2) := (blk_cell BK168.out 2).trans rfl; have hfz54_0 := blk_frozen BK168.out 0; have hfz54_1 := blk_frozen BK168.out 1; have hfz54_2 := blk_frozen BK168.out 2) | (go_at_call 12; (with_reducible refine (blast_Check.calls k _ _ l0_0 _ _ l0_1 _ _ l0_2 t169 _ ?side1 ?side2 ?side3 ?side4 ?side5 ?side6 A3.out).mono ?_); (case side1 => repeat (first | exact (Kd.C_below HR0_0.out HB.out) | (with_reducible refine Kd.C_alloc ?_ _) | (with_reducible refine Kd.C_drewN ?_ _) | (with_reducible refine Kd.C_drew ?_))); (case side2 => exact HC0_0.out); (case side3 => repeat (first | exact (Kd.C_below HR0_1.out HB.out) | (with_reducible refine Kd.C_alloc ?_ _) | (with_reducible refine Kd.C_drewN ?_ _) | (with_reducible refine Kd.C_drew ?_))); (case side4 => exact HC0_1.out); (case side5 => repeat (first | exact (Kd.C_below HR0_2.out HB.out) | (with_reducible refine Kd.C_alloc ?_ _) | (with_reducible refine Kd.C_drewN ?_ _) | (with_reducible refine Kd.C_drew ?_))); (case side6 => exact HC0_2.out); rintro e w55 ⟨rfl, hb⟩; have n0_ := Aside0.mk (blk_below (g := gb168) (o := .cells #[.slice A0_0 l0_0.length c0_0, .slice A0_1 l0_1.length c0_1, .slice A0_2 l0_2.length c0_2] 32 (0, 0)) q4_ hb); have n1_ := Aside0.mk (below_step q3_ hb); clear BK168; clear HB; have BK168 := n0_; have HB := n1_; clear n0_ n1_; (try clear hb); (try clear hb2); (try clear hk); (try clear hi)))
  repeat (go_quiet (first | ((with_reducible refine gate_dst (N := 2) rfl ?_); (try (refine gate_guard (by rfl) ?_; dsimp only)); refine box_event ?hg (N := 2) ?hd (cs := #[.slice A0_0 l0_0.length c0_0, .slice A0_1 l0_1.length c0_1, .slice A0_2 l0_2.length c0_2]) (t := 32) ?hr ?_; (case hd => rfl); (case hg => rfl); (case hr => first | (go_simp; done) | (go_simp; rfl)); intro gb168 hg w53 hbox hb; have n0_ := Aside0.mk (below_step q0_ hb); have n1_ := Aside0.mk (hbox); have n2_ := Aside0.mk ((by rw [hg]; exact (below_size q0_) : w.heap.size ≤ gb168)); have n3_ := Aside0.mk ((by rw [hg]; exact (below_size q0_) : w.heap.size ≤ gb168)); clear HB; have HB := n0_; have BK168 := n1_; have GW168 := n2_; have GE168 := n3_; clear n0_ n1_ n2_ n3_; clear hb hbox hg; have hcz54_0 : w53.cell? ⟨gb168, 0, none⟩ = some (.slice A0_0 l0_0.length c0_0) := (blk_cell BK168.out 0).trans rfl; have hcz54_1 : w53.cell? ⟨gb168, 1, none⟩ = some (.slice A0_1 l0_1.length c0_1) := (blk_cell BK168.out 1).trans rfl; have hcz54_2 : w53.cell? ⟨gb168, 2, none⟩ = some (.slice A0_2 l0_2.length c0_2) := (blk_cell BK168.out 2).trans rfl; have hfz54_0 := blk_frozen BK168.out 0; have hfz54_1 := blk_frozen BK168.out 1; have hfz54_2 := blk_frozen BK168.out 2) | (go_at_call 12; (with_reducible refine (blast_Check.calls k _ _ l0_0 _ _ l0_1 _ _ l0_2 t169 _ ?side1 ?side2 ?side3 ?side4 ?side5 ?side6 A3.out).mono ?_); (case side1 => repeat (first | exact (Kd.C_below HR0_0.out HB.out) | (with_reducible refine Kd.C_alloc ?_ _) | (with_reducible refine Kd.C_drewN ?_ _) | (with_reducible refine Kd.C_drew ?_))); (case side2 => exact HC0_0.out); (case side3 => repeat (first | exact (Kd.C_below HR0_1.out HB.out) | (with_reducible refine Kd.C_alloc ?_ _) | (with_reducible refine Kd.C_drewN ?_ _) | (with_reducible refine Kd.C_drew ?_))); (case side4 => exact HC0_1.out); (case side5 => repeat (first | exact (Kd.C_below HR0_2.out HB.out) | (with_reducible refine Kd.C_alloc ?_ _) | (with_reducible refine Kd.C_drewN ?_ _) | (with_reducible refine Kd.C_drew ?_))); (case side6 => exact HC0_2.out); rintro e w55 ⟨rfl, hb⟩; have n0_ := Aside0.mk (blk_below (g := gb168) (o := .cells #[.slice A0_0 l0_0.length c0_0, .slice A0_1 l0_1.length c0_1, .slice A0_2 l0_2.length c0_2] 32 (0, 0)) q4_ hb); have n1_ := Aside0.mk (below_step q3_ hb); clear BK168; clear HB; have BK168 := n0_; have HB := n1_; clear n0_ n1_; (try clear hb); (try clear hb2); (try clear hk); (try clear hi))); try go_wp2_with (first | ((with_reducible refine gate_dst (N := 2) rfl ?_); (try (refine gate_guard (by rfl) ?_; dsimp only)); refine box_event ?hg (N := 2) ?hd (cs := #[.slice A0_0 l0_0.length c0_0, .slice A0_1 l0_1.length c0_1, .slice A0_2 l0_2.length c0_2]) (t := 32) ?hr ?_; (case hd => rfl); (case hg => rfl); (case hr => first | (go_simp; done) | (go_simp; rfl)); intro gb168 hg w53 hbox hb; have n0_ := Aside0.mk (below_step q0_ hb); have n1_ := Aside0.mk (hbox); have n2_ := Aside0.mk ((by rw [hg]; exact (below_size q0_) : w.heap.size ≤ gb168)); have n3_ := Aside0.mk ((by rw [hg]; exact (below_size q0_) : w.heap.size ≤ gb168)); clear HB; have HB := n0_; have BK168 := n1_; have GW168 := n2_; have GE168 := n3_; clear n0_ n1_ n2_ n3_; clear hb hbox hg; have hcz54_0 : w53.cell? ⟨gb168, 0, none⟩ = some (.slice A0_0 l0_0.length c0_0) := (blk_cell BK168.out 0).trans rfl; have hcz54_1 : w53.cell? ⟨gb168, 1, none⟩ = some (.slice A0_1 l0_1.length c0_1) := (blk_cell BK168.out 1).trans rfl; have hcz54_2 : w53.cell? ⟨gb168, 2, none⟩ = some (.slice A0_2 l0_2.length c0_2) := (blk_cell BK168.out 2).trans rfl; have hfz54_0 := blk_frozen BK168.out 0; have hfz54_1 := blk_frozen BK168.out 1; have hfz54_2 := blk_frozen BK168.out 2) | (go_at_call 12; (with_reducible refine (blast_Check.calls k _ _ l0_0 _ _ l0_1 _ _ l0_2 t169 _ ?side1 ?side2 ?side3 ?side4 ?side5 ?side6 A3.out).mono ?_); (case side1 => repeat (first | exact (Kd.C_below HR0_0.out HB.out) | (with_reducible refine Kd.C_alloc ?_ _) | (with_reducible refine Kd.C_drewN ?_ _) | (with_reducible refine Kd.C_drew ?_))); (case side2 => exact HC0_0.out); (case side3 => repeat (first | exact (Kd.C_below HR0_1.out HB.out) | (with_reducible refine Kd.C_alloc ?_ _) | (with_reducible refine Kd.C_drewN ?_ _) | (with_reducible refine Kd.C_drew ?_))); (case side4 => exact HC0_1.out); (case side5 => repeat (first | exact (Kd.C_below HR0_2.out HB.out) | (with_reducible refine Kd.C_alloc ?_ _) | (with_reducible refine Kd.C_drewN ?_ _) | (with_reducible refine Kd.C_drew ?_))); (case side6 => exact HC0_2.out); rintro e w55 ⟨rfl, hb⟩; have n0_ := Aside0.mk (blk_below (g := gb168) (o := .cells #[.slice A0_0 l0_0.length c0_0, .slice A0_1 l0_1.length c0_1, .slice A0_2 l0_2.length c0_2] 32 (0, 0)) q4_ hb); have n1_ := Aside0.mk (below_step q3_ hb); clear BK168; clear HB; have BK168 := n0_; have HB := n1_; clear n0_ n1_; (try clear hb); (try clear hb2); (try clear hk); (try clear hi))))
  go_ret3
  exact ⟨_, by first | rfl | (simp [errW_none, errW_some] <;> rfl) | (simp [*, errW_none, errW_some] <;> rfl), by first | exact Kd.S_nil _ _ _ _ _ | exact Kd.N_nil _ _ _ _ _ | exact Kd.V_nil _ _ _ _ _ | exact Kd.Q_nil _ _ _ _ _ | exact Kd.R_nil _ _ _ _ _, by repeat (first | (with_reducible first | exact HB.out | apply below_alloc | apply pw_below_drewN | apply below_drew1 | refine below_set ?_ GE168.out) | exact HB.out)⟩

/-! ### retargetref04_Great: function 20 -/
mutual
def retargetref04_Great.l0 : Nat → Int → List (S44) → List (S49) → List Int → Option (Bool)
 | 0, _, _, _, _ => none
 | k + 1, x3, x204000, x204001, x204002 => if x3 < (x204000.length : Int) then (retargetref04_Great.j1 k x3 (decide (x3 ≤ 600)) x204000 x204001 x204002) else (retargetref04_Great.j1 k x3 false x204000 x204001 x204002)
def retargetref04_Great.j1 : Nat → Int → Bool → List (S44) → List (S49) → List Int → Option (Bool)
 | 0, _, _, _, _, _ => none
 | k + 1, x3, x12, x204000, x204001, x204002 => if x12 = true then (if 0 ≤ x3 then (if x3 < (x204000.length : Int) then (if (((rd_T44 x204000 x3).f0).size : Int) > 200 then (some true) else (retargetref04_Great.l0 k (wrap64 (x3 + 1)) x204000 x204001 x204002)) else (none)) else (none)) else (if (x204000.length : Int) > 600 then (some true) else (if (x204001.length : Int) > 100100 then (some true) else (some (decide ((x204002.length : Int) > 100)))))
end
def retargetref04_Great.f (k : Nat) (l0_0 : List (S44)) (l0_1 : List (S49)) (l0_2 : List Int) : Option (Bool) := retargetref04_Great.l0 k 0 l0_0 l0_1 l0_2
theorem retargetref04_Great.mono_l : ∀ k, (∀ y0 y1 y2 y3, LeO (retargetref04_Great.l0 k y0 y1 y2 y3) (retargetref04_Great.l0 (k + 1) y0 y1 y2 y3)) ∧ (∀ y0 y1 y2 y3 y4, LeO (retargetref04_Great.j1 k y0 y1 y2 y3 y4) (retargetref04_Great.j1 (k + 1) y0 y1 y2 y3 y4))
 | 0 => ⟨fun _ _ _ _ r h => by simp [retargetref04_Great.l0] at h, fun _ _ _ _ _ r h => by simp [retargetref04_Great.j1] at h⟩
 | k + 1 => by
  obtain ⟨ih0, ih1⟩ := retargetref04_Great.mono_l k
  refine ⟨?_, ?_⟩
  ·intro y0 y1 y2 y3
   unfold retargetref04_Great.l0
   repeat' first
   | (with_reducible exact ih0 _ _ _ _)
   | (with_reducible exact ih1 _ _ _ _ _)
   | (with_reducible exact LeO.refl _)
   | (with_reducible exact LeO.none _)
   | (with_reducible refine LeO.ite ?_ ?_)
   | (with_reducible refine LeO.bind ?_ (fun _ => ?_))
   | exact ih0 _ _ _ _
   | exact ih1 _ _ _ _ _
   | exact LeO.none _
   | refine LeO.ite ?_ ?_
   | refine LeO.bind ?_ (fun _ => ?_)
  ·intro y0 y1 y2 y3 y4
   unfold retargetref04_Great.j1
   repeat' first
   | (with_reducible exact ih0 _ _ _ _)
   | (with_reducible exact ih1 _ _ _ _ _)
   | (with_reducible exact LeO.refl _)
   | (with_reducible exact LeO.none _)
   | (with_reducible refine LeO.ite ?_ ?_)
   | (with_reducible refine LeO.bind ?_ (fun _ => ?_))
   | exact ih0 _ _ _ _
   | exact ih1 _ _ _ _ _
   | exact LeO.none _
   | refine LeO.ite ?_ ?_
   | refine LeO.bind ?_ (fun _ => ?_)
theorem retargetref04_Great.mono : ∀ a0 a1 a2 k, LeO (retargetref04_Great.f k a0 a1 a2) (retargetref04_Great.f (k + 1) a0 a1 a2) := by
 intro a0 a1 a2 k
 obtain ⟨ih0, ih1⟩ := retargetref04_Great.mono_l k
 unfold retargetref04_Great.f
 repeat' first
   | (with_reducible exact ih0 _ _ _ _)
   | (with_reducible exact ih1 _ _ _ _ _)
   | (with_reducible exact LeO.refl _)
   | (with_reducible exact LeO.none _)
   | (with_reducible refine LeO.ite ?_ ?_)
   | (with_reducible refine LeO.bind ?_ (fun _ => ?_))
   | exact ih0 _ _ _ _
   | exact ih1 _ _ _ _ _
   | exact LeO.none _
   | refine LeO.ite ?_ ?_
   | refine LeO.bind ?_ (fun _ => ?_)
set_option maxHeartbeats 8000000 in
set_option maxRecDepth 100000 in
theorem retargetref04_Great.calls (k : Nat) (A0_0 : Option Addr) (c0_0 : Nat) (l0_0 : List (S44)) (A0_1 : Option Addr) (c0_1 : Nat) (l0_1 : List (S49)) (A0_2 : Option Addr) (c0_2 : Nat) (l0_2 : List Int) (r : Bool) (w : World) (hr0_0 : Kd.C k44 w A0_0 l0_0.length l0_0) (hc0_0 : l0_0.length ≤ c0_0) (hr0_1 : Kd.C k49 w A0_1 l0_1.length l0_1) (hc0_1 : l0_1.length ≤ c0_1) (hr0_2 : Kd.C (Kd.int .i64) w A0_2 l0_2.length l0_2) (hc0_2 : l0_2.length ≤ c0_2) (h : retargetref04_Great.f k l0_0 l0_1 l0_2 = some r) :
  Calls Tryd.prog 20 #[.agg #[.slice A0_0 l0_0.length c0_0, .slice A0_1 l0_1.length c0_1, .slice A0_2 l0_2.length c0_2]] w fun e w' => e = .returned (.bool r) ∧ Below w.heap.size w w' := by
 have hu32 := Tryd.underlying32
 have HR0_0 := Aside0.mk hr0_0
 have HC0_0 := Aside0.mk hc0_0
 clear hr0_0 hc0_0
 have HR0_1 := Aside0.mk hr0_1
 have HC0_1 := Aside0.mk hc0_1
 clear hr0_1 hc0_1
 have HR0_2 := Aside0.mk hr0_2
 have HC0_2 := Aside0.mk hc0_2
 clear hr0_2 hc0_2
 have HB := Aside0.mk (Below.refl w.heap.size w)
 have H : (retargetref04_Great.l0 k 0 l0_0 l0_1 l0_2) = some r := h
 clear h
 have H' := Aside0.mk H
 clear H
 go_enter Tryd.func20, Tryd.ntmps20
 go_wp2_with (first | ((with_reducible refine gate_dst (N := 1) rfl ?_); (try (refine gate_guard (by rfl) ?_; dsimp only)); refine box_event ?hg (N := 1) ?hd (cs := #[.slice A0_0 l0_0.length c0_0, .slice A0_1 l0_1.length c0_1, .slice A0_2 l0_2.length c0_2]) (t := 32) ?hr ?_; (case hd => rfl); (case hg => rfl); (case hr => first | (go_simp; done) | (go_simp; rfl)); intro gb203 hg w2 hbox hb; have n0_ := Aside0.mk (below_step q0_ hb); have n1_ := Aside0.mk (hbox); have n2_ := Aside0.mk ((by rw [hg]; exact (below_size q0_) : w.heap.size ≤ gb203)); have n3_ := Aside0.mk ((by rw [hg]; exact (below_size q0_) : w.heap.size ≤ gb203)); clear HB; have HB := n0_; have BK203 := n1_; have GW203 := n2_; have GE203 := n3_; clear n0_ n1_ n2_ n3_; clear hb hbox hg))
 go_loopg [3] k (fun kq v3 w' => ∃ (x3_1 : Int), v3 = .int .i64 x3_1 ∧ Aside0 (retargetref04_Great.l0 kq x3_1 l0_0 l0_1 l0_2 = some r) ∧ Aside0 (kq ≤ k) ∧ Aside0 (w'.heap[gb203]? = some (.cells #[(.slice A0_0 l0_0.length c0_0), (.slice A0_1 l0_1.length c0_1), (.slice A0_2 l0_2.length c0_2)] 32 (0, 0))) ∧ Aside0 (Below w.heap.size w w'))
 case atStart => exact ⟨(0), q10_, H', ⟨Nat.le_refl _⟩, ⟨by (with_reducible repeat (first | refine blk_drewN ?_ _ | refine blk_drew ?_ | refine blk_alloc ?_ _)); exact BK203.out⟩, ⟨by repeat (first | (with_reducible first | exact HB.out | apply below_alloc | apply pw_below_drewN | apply below_drew1 | refine below_set ?_ GE203.out) | exact HB.out)⟩⟩
 case round =>
  clear H'
  try clear c2
  try clear p2
  obtain ⟨x3_1, rfl, HA, HK1, BK203, HB⟩ := hrel
  cases gk with
  | zero => exact absurd HA.out (by simp [retargetref04_Great.l0])
  | succ k1 =>
   have H := HA.out
   clear HA
   simp only [retargetref04_Great.l0] at H
   have HC3 := Aside0.mk H
   clear H
   go_upto_region 2 with (fail)
   go_cut [12] (fun v12 wc => ∃ (kq : Nat) (x12_2 : Bool), v12 = .bool x12_2 ∧ Aside0 (retargetref04_Great.j1 kq x3_1 x12_2 l0_0 l0_1 l0_2 = some r) ∧ Aside0 (kq ≤ k1) ∧ Aside0 (wc.heap[gb203]? = some (.cells #[(.slice A0_0 l0_0.length c0_0), (.slice A0_1 l0_1.length c0_1), (.slice A0_2 l0_2.length c0_2)] 32 (0, 0))) ∧ Aside0 (Below w.heap.size w wc))
   case first =>
    have H := HC3.out
    clear HC3
    by_cases c4 : x3_1 < (l0_0.length : Int)
    ·rw [if_pos c4] at H
     have c4b0 : decide (x3_1 < (l0_0.length : Int)) = true := decide_eq_true c4
     clear c4
     (first | rw [c4b0] | (simp only [i64_w, i32_w]; rw [c4b0]) | skip)
     have H' := Aside0.mk H
     clear H
     have hcz5_0 : wr.cell? ⟨gb203, 0, none⟩ = some (.slice A0_0 l0_0.length c0_0) := (blk_cell BK203.out 0).trans rfl
     have hcz5_1 : wr.cell? ⟨gb203, 1, none⟩ = some (.slice A0_1 l0_1.length c0_1) := (blk_cell BK203.out 1).trans rfl
     have hcz5_2 : wr.cell? ⟨gb203, 2, none⟩ = some (.slice A0_2 l0_2.length c0_2) := (blk_cell BK203.out 2).trans rfl
     have hfz5_0 := blk_frozen BK203.out 0
     have hfz5_1 := blk_frozen BK203.out 1
     have hfz5_2 := blk_frozen BK203.out 2
     go_wp2
     go_meet
     case rel => exact ⟨_, (decide (x3_1 ≤ 600)), q10_, H', ⟨by have := HK1.out; first | omega | exact Nat.le_refl _⟩, ⟨by (with_reducible repeat (first | refine blk_drewN ?_ _ | refine blk_drew ?_ | refine blk_alloc ?_ _)); exact BK203.out⟩, ⟨by repeat (first | (with_reducible first | exact HB.out | apply below_alloc | apply pw_below_drewN | apply below_drew1 | refine below_set ?_ GE203.out) | exact HB.out)⟩⟩
    ·rw [if_neg c4] at H
     have c4b0 : decide (x3_1 < (l0_0.length : Int)) = false := decide_eq_false c4
     clear c4
     (first | rw [c4b0] | (simp only [i64_w, i32_w]; rw [c4b0]) | skip)
     have H' := Aside0.mk H
     clear H
     have hcz6_0 : wr.cell? ⟨gb203, 0, none⟩ = some (.slice A0_0 l0_0.length c0_0) := (blk_cell BK203.out 0).trans rfl
     have hcz6_1 : wr.cell? ⟨gb203, 1, none⟩ = some (.slice A0_1 l0_1.length c0_1) := (blk_cell BK203.out 1).trans rfl
     have hcz6_2 : wr.cell? ⟨gb203, 2, none⟩ = some (.slice A0_2 l0_2.length c0_2) := (blk_cell BK203.out 2).trans rfl
     have hfz6_0 := blk_frozen BK203.out 0
     have hfz6_1 := blk_frozen BK203.out 1
     have hfz6_2 := blk_frozen BK203.out 2
     go_wp2
     go_meet
     case rel => exact ⟨_, (false), q10_, H', ⟨by have := HK1.out; first | omega | exact Nat.le_refl _⟩, ⟨by (with_reducible repeat (first | refine blk_drewN ?_ _ | refine blk_drew ?_ | refine blk_alloc ?_ _)); exact BK203.out⟩, ⟨by repeat (first | (with_reducible first | exact HB.out | apply below_alloc | apply pw_below_drewN | apply below_drew1 | refine below_set ?_ GE203.out) | exact HB.out)⟩⟩
   case rest =>
    clear HC3
    try clear c2
    try clear p2
    try clear c4
    try clear c4b0
    try clear hcz5_0
    try clear hcz5_1
    try clear hcz5_2
    try clear hcz6_0
    try clear hcz6_1
    try clear hcz6_2
    try clear hfz5_0
    try clear hfz5_1
    try clear hfz5_2
    try clear hfz6_0
    try clear hfz6_1
    try clear hfz6_2
    try clear p2
    obtain ⟨kq, x12_2, rfl, HA, HJ2, BK203, HB⟩ := hcut
    cases kq with
    | zero => exact absurd HA.out (by simp [retargetref04_Great.j1])
    | succ kj2 =>
     have H := HA.out
     clear HA
     simp only [retargetref04_Great.j1] at H
     by_cases c7 : x12_2 = true
     ·subst c7
      have H1 : (if 0 ≤ x3_1 then (if x3_1 < (l0_0.length : Int) then (if (((rd_T44 l0_0 x3_1).f0).size : Int) > 200 then (some true) else (retargetref04_Great.l0 kj2 (wrap64 (x3_1 + 1)) l0_0 l0_1 l0_2)) else (none)) else (none)) = some r := by rw [if_pos rfl] at H; exact H
      clear H
      have H := H1
      clear H1
      by_cases c8 : 0 ≤ x3_1
      ·rw [if_pos c8] at H
       have c8b0 : decide (0 ≤ x3_1) = true := decide_eq_true c8
       clear c8
       by_cases c9 : x3_1 < (l0_0.length : Int)
       ·rw [if_pos c9] at H
        have c9b0 : decide (x3_1 < (l0_0.length : Int)) = true := decide_eq_true c9
        clear c9
        by_cases c10 : (((rd_T44 l0_0 x3_1).f0).size : Int) > 200
        ·rw [if_pos c10] at H
         have c10b0 : decide (200 < (((rd_T44 l0_0 x3_1).f0).size : Int)) = true := decide_eq_true c10
         have c10b1 : decide (200 < ((rd_T44 l0_0 x3_1).f0).size) = true := decide_eq_true q29_
         clear c10
         obtain rfl := Option.some.inj H
         have hcz11_0 : wc.cell? ⟨gb203, 0, none⟩ = some (.slice A0_0 l0_0.length c0_0) := (blk_cell BK203.out 0).trans rfl
         have hcz11_1 : wc.cell? ⟨gb203, 1, none⟩ = some (.slice A0_1 l0_1.length c0_1) := (blk_cell BK203.out 1).trans rfl
         have hcz11_2 : wc.cell? ⟨gb203, 2, none⟩ = some (.slice A0_2 l0_2.length c0_2) := (blk_cell BK203.out 2).trans rfl
         have hfz11_0 := blk_frozen BK203.out 0
         have hfz11_1 := blk_frozen BK203.out 1
         have hfz11_2 := blk_frozen BK203.out 2
         have p204 : 0 ≤ (x3_1 : Int) := of_decide_eq_true q2_
         have q204 : x3_1 < (l0_0.length : Int) := of_decide_eq_true q2_
         obtain ⟨ad204, e204, hx204_0, hx204_1⟩ := at_T44 HR0_0.out x3_1 p204 q204
         cases e204
         replace hx204_0 := (HB.out.cell (World.block_lt_of_cell? w _ hx204_0)).trans hx204_0
         replace hx204_1 := (HB.out.cell (World.block_lt_of_cell? w _ hx204_1)).trans hx204_1
         replace p204 := eq_true p204
         replace q204 := eq_true q204
         go_wp2
         go_ret
         exact ⟨by first | rfl | (simp [errW_none, errW_some] <;> rfl) | (simp [*, errW_none, errW_some] <;> rfl), by repeat (first | (with_reducible first | exact HB.out | apply below_alloc | apply pw_below_drewN | apply below_drew1 | refine below_set ?_ GE203.out) | exact HB.out)⟩
        ·rw [if_neg c10] at H
         have c10b0 : decide (200 < (((rd_T44 l0_0 x3_1).f0).size : Int)) = false := decide_eq_false c10
         have c10b1 : decide (200 < ((rd_T44 l0_0 x3_1).f0).size) = false := decide_eq_false q29_
         clear c10
         have H' := Aside0.mk H
         clear H
         have hcz12_0 : wc.cell? ⟨gb203, 0, none⟩ = some (.slice A0_0 l0_0.length c0_0) := (blk_cell BK203.out 0).trans rfl
         have hcz12_1 : wc.cell? ⟨gb203, 1, none⟩ = some (.slice A0_1 l0_1.length c0_1) := (blk_cell BK203.out 1).trans rfl
         have hcz12_2 : wc.cell? ⟨gb203, 2, none⟩ = some (.slice A0_2 l0_2.length c0_2) := (blk_cell BK203.out 2).trans rfl
         have hfz12_0 := blk_frozen BK203.out 0
         have hfz12_1 := blk_frozen BK203.out 1
         have hfz12_2 := blk_frozen BK203.out 2
         have p204 : 0 ≤ (x3_1 : Int) := of_decide_eq_true q2_
         have q204 : x3_1 < (l0_0.length : Int) := of_decide_eq_true q2_
         obtain ⟨ad204, e204, hx204_0, hx204_1⟩ := at_T44 HR0_0.out x3_1 p204 q204
         cases e204
         replace hx204_0 := (HB.out.cell (World.block_lt_of_cell? w _ hx204_0)).trans hx204_0
         replace hx204_1 := (HB.out.cell (World.block_lt_of_cell? w _ hx204_1)).trans hx204_1
         replace p204 := eq_true p204
         replace q204 := eq_true q204
         go_wp2
         go_roundg kj2
         case measure => have := HK1.out; have := HJ2.out; omega
         case rel => exact ⟨(wrap64 (x3_1 + 1)), q10_, H', ⟨by have := HK1.out; have := HJ2.out; omega⟩, ⟨by (with_reducible repeat (first | refine blk_drewN ?_ _ | refine blk_drew ?_ | refine blk_alloc ?_ _)); exact BK203.out⟩, ⟨by repeat (first | (with_reducible first | exact HB.out | apply below_alloc | apply pw_below_drewN | apply below_drew1 | refine below_set ?_ GE203.out) | exact HB.out)⟩⟩
       ·rw [if_neg c9] at H
        exact absurd H (by simp)
      ·rw [if_neg c8] at H
       exact absurd H (by simp)
     ·replace c7 := Bool.eq_false_iff.mpr c7
      subst c7
      have H1 : (if (l0_0.length : Int) > 600 then (some true) else (if (l0_1.length : Int) > 100100 then (some true) else (some (decide ((l0_2.length : Int) > 100))))) = some r := by rw [if_neg (show ¬ (false = true) by decide)] at H; exact H
      clear H
      have H := H1
      clear H1
      by_cases c13 : (l0_0.length : Int) > 600
      ·rw [if_pos c13] at H
       have c13b0 : decide (600 < (l0_0.length : Int)) = true := decide_eq_true c13
       have c13b1 : decide (600 < l0_0.length) = true := decide_eq_true q29_
       clear c13
       obtain rfl := Option.some.inj H
       have hcz14_0 : wc.cell? ⟨gb203, 0, none⟩ = some (.slice A0_0 l0_0.length c0_0) := (blk_cell BK203.out 0).trans rfl
       have hcz14_1 : wc.cell? ⟨gb203, 1, none⟩ = some (.slice A0_1 l0_1.length c0_1) := (blk_cell BK203.out 1).trans rfl
       have hcz14_2 : wc.cell? ⟨gb203, 2, none⟩ = some (.slice A0_2 l0_2.length c0_2) := (blk_cell BK203.out 2).trans rfl
       have hfz14_0 := blk_frozen BK203.out 0
       have hfz14_1 := blk_frozen BK203.out 1
       have hfz14_2 := blk_frozen BK203.out 2
       go_wp2
       go_ret
       exact ⟨by first | rfl | (simp [errW_none, errW_some] <;> rfl) | (simp [*, errW_none, errW_some] <;> rfl), by repeat (first | (with_reducible first | exact HB.out | apply below_alloc | apply pw_below_drewN | apply below_drew1 | refine below_set ?_ GE203.out) | exact HB.out)⟩
      ·rw [if_neg c13] at H
       have c13b0 : decide (600 < (l0_0.length : Int)) = false := decide_eq_false c13
       have c13b1 : decide (600 < l0_0.length) = false := decide_eq_false q29_
       clear c13
       by_cases c15 : (l0_1.length : Int) > 100100
       ·rw [if_pos c15] at H
        have c15b0 : decide (100100 < (l0_1.length : Int)) = true := decide_eq_true c15
        have c15b1 : decide (100100 < l0_1.length) = true := decide_eq_true q29_
        clear c15
        obtain rfl := Option.some.inj H
        have hcz16_0 : wc.cell? ⟨gb203, 0, none⟩ = some (.slice A0_0 l0_0.length c0_0) := (blk_cell BK203.out 0).trans rfl
        have hcz16_1 : wc.cell? ⟨gb203, 1, none⟩ = some (.slice A0_1 l0_1.length c0_1) := (blk_cell BK203.out 1).trans rfl
        have hcz16_2 : wc.cell? ⟨gb203, 2, none⟩ = some (.slice A0_2 l0_2.length c0_2) := (blk_cell BK203.out 2).trans rfl
        have hfz16_0 := blk_frozen BK203.out 0
        have hfz16_1 := blk_frozen BK203.out 1
        have hfz16_2 := blk_frozen BK203.out 2
        go_wp2
        go_ret
        exact ⟨by first | rfl | (simp [errW_none, errW_some] <;> rfl) | (simp [*, errW_none, errW_some] <;> rfl), by repeat (first | (with_reducible first | exact HB.out | apply below_alloc | apply pw_below_drewN | apply below_drew1 | refine below_set ?_ GE203.out) | exact HB.out)⟩
       ·rw [if_neg c15] at H
        have c15b0 : decide (100100 < (l0_1.length : Int)) = false := decide_eq_false c15
        have c15b1 : decide (100100 < l0_1.length) = false := decide_eq_false q29_
        clear c15
        obtain rfl := Option.some.inj H
        have hcz17_0 : wc.cell? ⟨gb203, 0, none⟩ = some (.slice A0_0 l0_0.length c0_0) := (blk_cell BK203.out 0).trans rfl
        have hcz17_1 : wc.cell? ⟨gb203, 1, none⟩ = some (.slice A0_1 l0_1.length c0_1) := (blk_cell BK203.out 1).trans rfl
        have hcz17_2 : wc.cell? ⟨gb203, 2, none⟩ = some (.slice A0_2 l0_2.length c0_2) := (blk_cell BK203.out 2).trans rfl
        have hfz17_0 := blk_frozen BK203.out 0
        have hfz17_1 := blk_frozen BK203.out 1
        have hfz17_2 := blk_frozen BK203.out 2
        go_wp2
        go_ret
        exact ⟨by first | rfl | (simp [errW_none, errW_some] <;> rfl) | (simp [*, errW_none, errW_some] <;> rfl), by repeat (first | (with_reducible first | exact HB.out | apply below_alloc | apply pw_below_drewN | apply below_drew1 | refine below_set ?_ GE203.out) | exact HB.out)⟩

/-! ### retargetref04_Lit: function 42 -/
def retargetref04_Lit.f (l0 : List Bool) (a1 : Int) : Option (Bool) := if (Int.tmod a1 2) = 1 then (if 0 ≤ (wrap64 (Int.tdiv a1 2)) then (if (wrap64 (Int.tdiv a1 2)) < (l0.length : Int) then (some (!(rdOf false l0 (wrap64 (Int.tdiv a1 2))))) else (none)) else (none)) else (if 0 ≤ (wrap64 (Int.tdiv a1 2)) then (if (wrap64 (Int.tdiv a1 2)) < (l0.length : Int) then (some (rdOf false l0 (wrap64 (Int.tdiv a1 2)))) else (none)) else (none))
set_option maxHeartbeats 8000000 in
set_option maxRecDepth 100000 in
theorem retargetref04_Lit.calls (A0 : Option Addr) (c0 : Nat) (l0 : List Bool) (a1 : Int) (r : Bool) (w : World) (hr0 : Kd.C Kd.bool w A0 l0.length l0) (hc0 : l0.length ≤ c0) (h : retargetref04_Lit.f l0 a1 = some r) :
  Calls Tryd.prog 42 #[.slice A0 l0.length c0, .int .i64 a1] w fun e w' => e = .returned (.bool r) ∧ Drawn0 w w' := by
 have HR0 := Aside0.mk hr0
 have HC0 := Aside0.mk hc0
 clear hr0 hc0
 have H : (if (Int.tmod a1 2) = 1 then (if 0 ≤ (wrap64 (Int.tdiv a1 2)) then (if (wrap64 (Int.tdiv a1 2)) < (l0.length : Int) then (some (!(rdOf false l0 (wrap64 (Int.tdiv a1 2))))) else (none)) else (none)) else (if 0 ≤ (wrap64 (Int.tdiv a1 2)) then (if (wrap64 (Int.tdiv a1 2)) < (l0.length : Int) then (some (rdOf false l0 (wrap64 (Int.tdiv a1 2)))) else (none)) else (none))) = some r := h
 clear h
 by_cases c3 : (Int.tmod a1 2) = 1
 ·rw [if_pos c3] at H
  have c3b0 : ((Int.tmod a1 2) == 1) = true := beq_iff_eq.mpr c3
  have c3b1 : ((Int.tmod a1 2) != 1) = false := bne_eq_false_iff_eq.mpr c3
  clear c3
  obtain ⟨ji4, hji4⟩ : ∃ j_ : Int, (wrap64 (Int.tdiv a1 2)) = j_ := ⟨_, rfl⟩
  replace H : (if 0 ≤ (ji4) then (if (ji4) < (l0.length : Int) then (some (!(rdOf false l0 (ji4)))) else (none)) else (none)) = some r := by first | (rw [hji4] at H; exact H) | (simp only [hji4] at H ⊢; exact H)
  have hji4w : (IntKind.i64.wrap (Int.tdiv a1 2)) = ji4 := (i64_w _).trans hji4
  by_cases c5 : 0 ≤ (ji4)
  ·rw [if_pos c5] at H
   have c5b0 : decide (0 ≤ (ji4)) = true := decide_eq_true c5
   clear c5
   by_cases c6 : (ji4) < (l0.length : Int)
   ·rw [if_pos c6] at H
    have c6b0 : decide ((ji4) < (l0.length : Int)) = true := decide_eq_true c6
    clear c6
    obtain rfl := Option.some.inj H
    have p205 : 0 ≤ ((ji4) : Int) := of_decide_eq_true q2_
    have q205 : (ji4) < (l0.length : Int) := of_decide_eq_true q2_
    obtain ⟨ad205, e205, hx205_0⟩ := Kd.at_bool HR0.out (ji4) p205 q205
    cases e205
    replace p205 := eq_true p205
    replace q205 := eq_true q205
    go_enter Tryd.func42, Tryd.ntmps42
    go_wp2
    go_ret
    exact ⟨by first | rfl | (simp; done) | (simp only [← hji4] <;> (first | rfl | simp)) | (simp [*]; done), by repeat (first | exact Drawn0.refl _ | apply Drawn0.step)⟩
   ·rw [if_neg c6] at H
    exact absurd H (by simp)
  ·rw [if_neg c5] at H
   exact absurd H (by simp)
 ·rw [if_neg c3] at H
  have c3b0 : ((Int.tmod a1 2) == 1) = false := beq_eq_false_iff_ne.mpr c3
  have c3b1 : ((Int.tmod a1 2) != 1) = true := bne_iff_ne.mpr c3
  obtain ⟨ji7, hji7⟩ : ∃ j_ : Int, (wrap64 (Int.tdiv a1 2)) = j_ := ⟨_, rfl⟩
  replace H : (if 0 ≤ (ji7) then (if (ji7) < (l0.length : Int) then (some (rdOf false l0 (ji7))) else (none)) else (none)) = some r := by first | (rw [hji7] at H; exact H) | (simp only [hji7] at H ⊢; exact H)
  have hji7w : (IntKind.i64.wrap (Int.tdiv a1 2)) = ji7 := (i64_w _).trans hji7
  by_cases c8 : 0 ≤ (ji7)
  ·rw [if_pos c8] at H
   have c8b0 : decide (0 ≤ (ji7)) = true := decide_eq_true c8
   clear c8
   by_cases c9 : (ji7) < (l0.length : Int)
   ·rw [if_pos c9] at H
    have c9b0 : decide ((ji7) < (l0.length : Int)) = true := decide_eq_true c9
    clear c9
    obtain rfl := Option.some.inj H
    have p206 : 0 ≤ ((ji7) : Int) := of_decide_eq_true q2_
    have q206 : (ji7) < (l0.length : Int) := of_decide_eq_true q2_
    obtain ⟨ad206, e206, hx206_0⟩ := Kd.at_bool HR0.out (ji7) p206 q206
    cases e206
    replace p206 := eq_true p206
    replace q206 := eq_true q206
    go_enter Tryd.func42, Tryd.ntmps42
    go_wp2
    go_ret
    exact ⟨by first | rfl | (simp; done) | (simp only [← hji7] <;> (first | rfl | simp)) | (simp [*]; done), by repeat (first | exact Drawn0.refl _ | apply Drawn0.step)⟩
   ·rw [if_neg c9] at H
    exact absurd H (by simp)
  ·rw [if_neg c8] at H
   exact absurd H (by simp)

end Go.Proofs.YtjopdafckhkmmaaDoor.MBS
