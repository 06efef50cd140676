/- Functions of the program as Lean functions, and of each a proof that the Go code comes to just its answers. Laid for this claim by wip/drive.py of this repo (our driver over the kit's printing program); no text of print.sh. No condition. -/
import Derived.Test.YtjopdafckhkmmaaDoorCBSatMBSx0
import Derived.Test.YtjopdafckhkmmaaDoorCBSatMBSx1
import Derived.Test.YtjopdafckhkmmaaDoorCBSatMBSx2
namespace Go.Proofs.YtjopdafckhkmmaaDoor.MBS
open Go.Proofs.YtjopdafckhkmmaaDoor.Zed Go.RowKit Go.Proofs.YtjopdafckhkmmaaDoorW.PrintWords Go.Proofs.YtjopdafckhkmmaaDoorW.PrintLast Go.Proofs.YtjopdafckhkmmaaDoorW.PrintMore
attribute [local go_sem] max2_int min2_int max_two min_two max_three min_three max_four min_four   -- for this text's walks alone
set_option linter.unusedVariables false
set_option linter.unusedSimpArgs false

/-! ### blast_Check: function 12 -/
mutual
def blast_Check.j0 : Nat → Bool → List (S44) → List (S49) → List Int → Option (Int)
 | 0, _, _, _, _ => none
 | k + 1, x27, x134000, x134001, x134002 => if x27 = true then (some 4) else (blast_Check.l0 k x134000 (x134000.length : Int) 0 x134000 x134001 x134002)
def blast_Check.l0 : Nat → List (S44) → Int → Int → List (S44) → List (S49) → List Int → Option (Int)
 | 0, _, _, _, _, _, _ => none
 | k + 1, x29, x30, x31, x134000, x134001, x134002 => if x31 < x30 then (if 0 ≤ x31 then (if x31 < (x29.length : Int) then ((strings_TrimPrefix.f ((rd_T44 x29 x31).f0) (⟨#[114, 46]⟩ : ByteArray)).bind fun t136 => ((bits_Name.f k t136).bind fun t137 => (if t137 = true then (if ((rd_T44 x29 x31).f1) < 0 then (some 8) else (if ((rd_T44 x29 x31).f1) ≥ 64 then (some 8) else (if x31 > 0 then (if 0 ≤ (wrap64 (x31 - 1)) then (if (wrap64 (x31 - 1)) < (x134000.length : Int) then ((blast_before.f ((rd_T44 x134000 (wrap64 (x31 - 1))).f0) ((rd_T44 x134000 (wrap64 (x31 - 1))).f1) ((rd_T44 x29 x31).f0) ((rd_T44 x29 x31).f1)).bind fun t139 => (if t139 = true then (blast_Check.l0 k x29 x30 (wrap64 (x31 + 1)) x134000 x134001 x134002) else (some 8))) else (none)) else (none)) else (blast_Check.l0 k x29 x30 (wrap64 (x31 + 1)) x134000 x134001 x134002)))) else (some 8)))) else (none)) else (none)) else (blast_Check.l1 k (wrap64 (1 + (x134000.length : Int))) x134001 (x134001.length : Int) 0 x134000 x134001 x134002)
def blast_Check.l1 : Nat → Int → List (S49) → Int → Int → List (S44) → List (S49) → List Int → Option (Int)
 | 0, _, _, _, _, _, _, _ => none
 | k + 1, x6, x73, x74, x75, x134000, x134001, x134002 => if x75 < x74 then (if 0 ≤ x75 then (if x75 < (x73.length : Int) then (if (mn ((rd_T49 x73 x75).f0) ((rd_T49 x73 x75).f1)) < 0 then (some 8) else (if (mx ((rd_T49 x73 x75).f0) ((rd_T49 x73 x75).f1)) ≥ (wrap64 (2 * (wrap64 (x6 + x75)))) then (some 8) else (blast_Check.l1 k x6 x73 x74 (wrap64 (x75 + 1)) x134000 x134001 x134002))) else (none)) else (none)) else (blast_Check.l2 k x6 x134002 (x134002.length : Int) 0 x134000 x134001 x134002)
def blast_Check.l2 : Nat → Int → List Int → Int → Int → List (S44) → List (S49) → List Int → Option (Int)
 | 0, _, _, _, _, _, _, _ => none
 | k + 1, x6, x101, x102, x103, x134000, x134001, x134002 => if x103 < x102 then (if 0 ≤ x103 then (if x103 < (x101.length : Int) then (if (rd x101 x103) < 0 then (some 8) else (if (rd x101 x103) ≥ (wrap64 (2 * (wrap64 (x6 + (x134001.length : Int))))) then (some 8) else (blast_Check.l2 k x6 x101 x102 (wrap64 (x103 + 1)) x134000 x134001 x134002))) else (none)) else (none)) else (some 0)
end
def blast_Check.f (k : Nat) (l0_0 : List (S44)) (l0_1 : List (S49)) (l0_2 : List Int) : Option (Int) := if (l0_0.length : Int) > 512 then (blast_Check.j0 k true l0_0 l0_1 l0_2) else (if (l0_1.length : Int) > 100000 then (blast_Check.j0 k true l0_0 l0_1 l0_2) else (blast_Check.j0 k (decide ((l0_2.length : Int) > 64)) l0_0 l0_1 l0_2))
theorem blast_Check.mono_l : ∀ k, (∀ y0 y1 y2 y3, LeO (blast_Check.j0 k y0 y1 y2 y3) (blast_Check.j0 (k + 1) y0 y1 y2 y3)) ∧ (∀ y0 y1 y2 y3 y4 y5, LeO (blast_Check.l0 k y0 y1 y2 y3 y4 y5) (blast_Check.l0 (k + 1) y0 y1 y2 y3 y4 y5)) ∧ (∀ y0 y1 y2 y3 y4 y5 y6, LeO (blast_Check.l1 k y0 y1 y2 y3 y4 y5 y6) (blast_Check.l1 (k + 1) y0 y1 y2 y3 y4 y5 y6)) ∧ (∀ y0 y1 y2 y3 y4 y5 y6, LeO (blast_Check.l2 k y0 y1 y2 y3 y4 y5 y6) (blast_Check.l2 (k + 1) y0 y1 y2 y3 y4 y5 y6))
 | 0 => ⟨fun _ _ _ _ r h => by simp [blast_Check.j0] at h, fun _ _ _ _ _ _ r h => by simp [blast_Check.l0] at h, fun _ _ _ _ _ _ _ r h => by simp [blast_Check.l1] at h, fun _ _ _ _ _ _ _ r h => by simp [blast_Check.l2] at h⟩
 | k + 1 => by
  obtain ⟨ih0, ih1, ih2, ih3⟩ := blast_Check.mono_l k
  refine ⟨?_, ?_, ?_, ?_⟩
  ·intro y0 y1 y2 y3
   unfold blast_Check.j0
   repeat' first
   | (with_reducible exact ih0 _ _ _ _)
   | (with_reducible exact ih1 _ _ _ _ _ _)
   | (with_reducible exact ih2 _ _ _ _ _ _ _)
   | (with_reducible exact ih3 _ _ _ _ _ _ _)
   | (with_reducible exact bits_Name.mono _ _)
   | (with_reducible exact LeO.refl _)
   | (with_reducible exact LeO.none _)
   | (with_reducible refine LeO.ite ?_ ?_)
   | (with_reducible refine LeO.bind ?_ (fun _ => ?_))
   | exact ih0 _ _ _ _
   | exact ih1 _ _ _ _ _ _
   | exact ih2 _ _ _ _ _ _ _
   | exact ih3 _ _ _ _ _ _ _
   | exact bits_Name.mono _ _
   | exact LeO.none _
   | refine LeO.ite ?_ ?_
   | refine LeO.bind ?_ (fun _ => ?_)
  ·intro y0 y1 y2 y3 y4 y5
   unfold blast_Check.l0
   repeat' first
   | (with_reducible exact ih0 _ _ _ _)
   | (with_reducible exact ih1 _ _ _ _ _ _)
   | (with_reducible exact ih2 _ _ _ _ _ _ _)
   | (with_reducible exact ih3 _ _ _ _ _ _ _)
   | (with_reducible exact bits_Name.mono _ _)
   | (with_reducible exact LeO.refl _)
   | (with_reducible exact LeO.none _)
   | (with_reducible refine LeO.ite ?_ ?_)
   | (with_reducible refine LeO.bind ?_ (fun _ => ?_))
   | exact ih0 _ _ _ _
   | exact ih1 _ _ _ _ _ _
   | exact ih2 _ _ _ _ _ _ _
   | exact ih3 _ _ _ _ _ _ _
   | exact bits_Name.mono _ _
   | exact LeO.none _
   | refine LeO.ite ?_ ?_
   | refine LeO.bind ?_ (fun _ => ?_)
  ·intro y0 y1 y2 y3 y4 y5 y6
   unfold blast_Check.l1
   repeat' first
   | (with_reducible exact ih0 _ _ _ _)
   | (with_reducible exact ih1 _ _ _ _ _ _)
   | (with_reducible exact ih2 _ _ _ _ _ _ _)
   | (with_reducible exact ih3 _ _ _ _ _ _ _)
   | (with_reducible exact bits_Name.mono _ _)
   | (with_reducible exact LeO.refl _)
   | (with_reducible exact LeO.none _)
   | (with_reducible refine LeO.ite ?_ ?_)
   | (with_reducible refine LeO.bind ?_ (fun _ => ?_))
   | exact ih0 _ _ _ _
   | exact ih1 _ _ _ _ _ _
   | exact ih2 _ _ _ _ _ _ _
   | exact ih3 _ _ _ _ _ _ _
   | exact bits_Name.mono _ _
   | exact LeO.none _
   | refine LeO.ite ?_ ?_
   | refine LeO.bind ?_ (fun _ => ?_)
  ·intro y0 y1 y2 y3 y4 y5 y6
   unfold blast_Check.l2
   repeat' first
   | (with_reducible exact ih0 _ _ _ _)
   | (with_reducible exact ih1 _ _ _ _ _ _)
   | (with_reducible exact ih2 _ _ _ _ _ _ _)
   | (with_reducible exact ih3 _ _ _ _ _ _ _)
   | (with_reducible exact bits_Name.mono _ _)
   | (with_reducible exact LeO.refl _)
   | (with_reducible exact LeO.none _)
   | (with_reducible refine LeO.ite ?_ ?_)
   | (with_reducible refine LeO.bind ?_ (fun _ => ?_))
   | exact ih0 _ _ _ _
   | exact ih1 _ _ _ _ _ _
   | exact ih2 _ _ _ _ _ _ _
   | exact ih3 _ _ _ _ _ _ _
   | exact bits_Name.mono _ _
   | exact LeO.none _
   | refine LeO.ite ?_ ?_
   | refine LeO.bind ?_ (fun _ => ?_)
theorem blast_Check.mono : ∀ a0 a1 a2 k, LeO (blast_Check.f k a0 a1 a2) (blast_Check.f (k + 1) a0 a1 a2) := by
 intro a0 a1 a2 k
 obtain ⟨ih0, ih1, ih2, ih3⟩ := blast_Check.mono_l k
 unfold blast_Check.f
 repeat' first
   | (with_reducible exact ih0 _ _ _ _)
   | (with_reducible exact ih1 _ _ _ _ _ _)
   | (with_reducible exact ih2 _ _ _ _ _ _ _)
   | (with_reducible exact ih3 _ _ _ _ _ _ _)
   | (with_reducible exact bits_Name.mono _ _)
   | (with_reducible exact LeO.refl _)
   | (with_reducible exact LeO.none _)
   | (with_reducible refine LeO.ite ?_ ?_)
   | (with_reducible refine LeO.bind ?_ (fun _ => ?_))
   | exact ih0 _ _ _ _
   | exact ih1 _ _ _ _ _ _
   | exact ih2 _ _ _ _ _ _ _
   | exact ih3 _ _ _ _ _ _ _
   | exact bits_Name.mono _ _
   | exact LeO.none _
   | refine LeO.ite ?_ ?_
   | refine LeO.bind ?_ (fun _ => ?_)
def blast_Check.T7 : Bool × List (List Nat × List Nat) := (true, [([], []), ([0], [0]), ([1], [1]), ([2], [2]), ([3, 2], [2, 3]), ([4, 2], [2, 4]), ([2, 5], [2, 5]), ([6, 2], [6]), ([7], [7]), ([8, 7], [7, 8]), ([9, 7], [7, 9]), ([7, 10], [7, 10]), ([11, 7], [11]), ([12], [12]), ([13, 12], [12, 13]), ([14, 12, 12], [12, 14]), ([15], [15]), ([16, 15], [15, 16]), ([15], [15]), ([18, 15], [15, 18]), ([17, 19, 15], [15, 17, 19]), ([20, 15], [15, 20]), ([15], [15]), ([21, 22, 15, 15], [15, 21, 22]), ([23, 15], [15, 23]), ([15, 24, 12], [12, 15, 24]), ([12, 25], [12, 25])])
def blast_Check.B7 : List Nat := [0, 1, 3, 7, 15, 31, 63, 127, 255, 511, 1023, 2047, 4095, 8191, 16383, 32767, 65535, 131071, 65535, 327679, 1048575, 2097151, 65535, 8388607, 16777215, 33554431, 67108863]
theorem blast_Check.tab7 : rtab .any (opsOf Tryd.f12 7) = blast_Check.T7 := by kernel_rfl
theorem blast_Check.bits7 : waitsOk blast_Check.T7.2 blast_Check.B7 = true := by kernel_rfl
set_option maxHeartbeats 8000000 in
set_option maxRecDepth 100000 in
theorem blast_Check.calls (k : Nat) (A0_0 : Option Addr) (c0_0 : Nat) (l0_0 : List (S44)) (A0_1 : Option Addr) (c0_1 : Nat) (l0_1 : List (S49)) (A0_2 : Option Addr) (c0_2 : Nat) (l0_2 : List Int) (r : Int) (w : World) (hr0_0 : Kd.C k44 w A0_0 l0_0.length l0_0) (hc0_0 : l0_0.length ≤ c0_0) (hr0_1 : Kd.C k49 w A0_1 l0_1.length l0_1) (hc0_1 : l0_1.length ≤ c0_1) (hr0_2 : Kd.C (Kd.int .i64) w A0_2 l0_2.length l0_2) (hc0_2 : l0_2.length ≤ c0_2) (h : blast_Check.f k l0_0 l0_1 l0_2 = some r) :
  Calls Tryd.prog 12 #[.agg #[.slice A0_0 l0_0.length c0_0, .slice A0_1 l0_1.length c0_1, .slice A0_2 l0_2.length c0_2]] w fun e w' => e = .returned (.int .i64 r) ∧ Below w.heap.size w w' := by
 have hu32 := Tryd.underlying32
 have hu44 := Tryd.underlying44
 have hu49 := Tryd.underlying49
 have HR0_0 := Aside0.mk hr0_0
 have HC0_0 := Aside0.mk hc0_0
 clear hr0_0 hc0_0
 have HR0_1 := Aside0.mk hr0_1
 have HC0_1 := Aside0.mk hc0_1
 clear hr0_1 hc0_1
 have HR0_2 := Aside0.mk hr0_2
 have HC0_2 := Aside0.mk hc0_2
 clear hr0_2 hc0_2
 have HB := Aside0.mk (Below.refl w.heap.size w)
 have H : (if (l0_0.length : Int) > 512 then (blast_Check.j0 k true l0_0 l0_1 l0_2) else (if (l0_1.length : Int) > 100000 then (blast_Check.j0 k true l0_0 l0_1 l0_2) else (blast_Check.j0 k (decide ((l0_2.length : Int) > 64)) l0_0 l0_1 l0_2))) = some r := h
 clear h
 have HC2 := Aside0.mk H
 clear H
 go_enter Tryd.func12, Tryd.ntmps12
 go_upto_region 1 with (first | ((with_reducible refine gate_dst (N := 1) rfl ?_); (try (refine gate_guard (by rfl) ?_; dsimp only)); refine box_event ?hg (N := 1) ?hd (cs := #[.slice A0_0 l0_0.length c0_0, .slice A0_1 l0_1.length c0_1, .slice A0_2 l0_2.length c0_2]) (t := 32) ?hr ?_; (case hd => rfl); (case hg => rfl); (case hr => first | (go_simp; done) | (go_simp; rfl)); intro gb133 hg w3 hbox hb; have n0_ := Aside0.mk (below_step q0_ hb); have n1_ := Aside0.mk (hbox); have n2_ := Aside0.mk ((by rw [hg]; exact (below_size q0_) : w.heap.size ≤ gb133)); have n3_ := Aside0.mk ((by rw [hg]; exact (below_size q0_) : w.heap.size ≤ gb133)); clear HB; have HB := n0_; have BK133 := n1_; have GW133 := n2_; have GE133 := n3_; clear n0_ n1_ n2_ n3_; clear hb hbox hg))
 (try simp only [Act.put, List.setIfInBounds_toArray, List.set_cons_zero, List.set_cons_succ])
 go_cut [27] (fun v27 wc => ∃ (kq : Nat) (x27_1 : Bool), v27 = .bool x27_1 ∧ Aside0 (blast_Check.j0 kq x27_1 l0_0 l0_1 l0_2 = some r) ∧ Aside0 (kq ≤ k) ∧ Aside0 (wc.heap[gb133]? = some (.cells #[(.slice A0_0 l0_0.length c0_0), (.slice A0_1 l0_1.length c0_1), (.slice A0_2 l0_2.length c0_2)] 32 (0, 0))) ∧ Aside0 (Below w.heap.size w wc))
 case first =>
  have H := HC2.out
  clear HC2
  by_cases c4 : (l0_0.length : Int) > 512
  ·rw [if_pos c4] at H
   have c4b0 : decide (512 < (l0_0.length : Int)) = true := decide_eq_true c4
   have c4b1 : decide (512 < l0_0.length) = true := decide_eq_true q29_
   clear c4
   (first | rw [c4b0] | (simp only [i64_w, i32_w]; rw [c4b0]) | skip)
   have H' := Aside0.mk H
   clear H
   have hcz5_0 : w3.cell? ⟨gb133, 0, none⟩ = some (.slice A0_0 l0_0.length c0_0) := (blk_cell BK133.out 0).trans rfl
   have hcz5_1 : w3.cell? ⟨gb133, 1, none⟩ = some (.slice A0_1 l0_1.length c0_1) := (blk_cell BK133.out 1).trans rfl
   have hcz5_2 : w3.cell? ⟨gb133, 2, none⟩ = some (.slice A0_2 l0_2.length c0_2) := (blk_cell BK133.out 2).trans rfl
   have hfz5_0 := blk_frozen BK133.out 0
   have hfz5_1 := blk_frozen BK133.out 1
   have hfz5_2 := blk_frozen BK133.out 2
   go_wp2
   go_meet
   case rel => exact ⟨_, (true), q10_, H', ⟨by first | omega | exact Nat.le_refl _⟩, ⟨by (with_reducible repeat (first | refine blk_drewN ?_ _ | refine blk_drew ?_ | refine blk_alloc ?_ _)); exact BK133.out⟩, ⟨by repeat (first | (with_reducible first | exact HB.out | apply below_alloc | apply pw_below_drewN | apply below_drew1 | refine below_set ?_ GE133.out) | exact HB.out)⟩⟩
  ·rw [if_neg c4] at H
   have c4b0 : decide (512 < (l0_0.length : Int)) = false := decide_eq_false c4
   have c4b1 : decide (512 < l0_0.length) = false := decide_eq_false q29_
   clear c4
   (first | rw [c4b0] | (simp only [i64_w, i32_w]; rw [c4b0]) | skip)
   by_cases c6 : (l0_1.length : Int) > 100000
   ·rw [if_pos c6] at H
    have c6b0 : decide (100000 < (l0_1.length : Int)) = true := decide_eq_true c6
    have c6b1 : decide (100000 < l0_1.length) = true := decide_eq_true q29_
    clear c6
    have H' := Aside0.mk H
    clear H
    have hcz7_0 : w3.cell? ⟨gb133, 0, none⟩ = some (.slice A0_0 l0_0.length c0_0) := (blk_cell BK133.out 0).trans rfl
    have hcz7_1 : w3.cell? ⟨gb133, 1, none⟩ = some (.slice A0_1 l0_1.length c0_1) := (blk_cell BK133.out 1).trans rfl
    have hcz7_2 : w3.cell? ⟨gb133, 2, none⟩ = some (.slice A0_2 l0_2.length c0_2) := (blk_cell BK133.out 2).trans rfl
    have hfz7_0 := blk_frozen BK133.out 0
    have hfz7_1 := blk_frozen BK133.out 1
    have hfz7_2 := blk_frozen BK133.out 2
    go_wp2
    go_meet
    case rel => exact ⟨_, (true), q10_, H', ⟨by first | omega | exact Nat.le_refl _⟩, ⟨by (with_reducible repeat (first | refine blk_drewN ?_ _ | refine blk_drew ?_ | refine blk_alloc ?_ _)); exact BK133.out⟩, ⟨by repeat (first | (with_reducible first | exact HB.out | apply below_alloc | apply pw_below_drewN | apply below_drew1 | refine below_set ?_ GE133.out) | exact HB.out)⟩⟩
   ·rw [if_neg c6] at H
    have c6b0 : decide (100000 < (l0_1.length : Int)) = false := decide_eq_false c6
    have c6b1 : decide (100000 < l0_1.length) = false := decide_eq_false q29_
    clear c6
    have H' := Aside0.mk H
    clear H
    have hcz8_0 : w3.cell? ⟨gb133, 0, none⟩ = some (.slice A0_0 l0_0.length c0_0) := (blk_cell BK133.out 0).trans rfl
    have hcz8_1 : w3.cell? ⟨gb133, 1, none⟩ = some (.slice A0_1 l0_1.length c0_1) := (blk_cell BK133.out 1).trans rfl
    have hcz8_2 : w3.cell? ⟨gb133, 2, none⟩ = some (.slice A0_2 l0_2.length c0_2) := (blk_cell BK133.out 2).trans rfl
    have hfz8_0 := blk_frozen BK133.out 0
    have hfz8_1 := blk_frozen BK133.out 1
    have hfz8_2 := blk_frozen BK133.out 2
    go_wp2
    go_meet
    case rel => exact ⟨_, (decide ((l0_2.length : Int) > 64)), q10_, H', ⟨by first | omega | exact Nat.le_refl _⟩, ⟨by (with_reducible repeat (first | refine blk_drewN ?_ _ | refine blk_drew ?_ | refine blk_alloc ?_ _)); exact BK133.out⟩, ⟨by repeat (first | (with_reducible first | exact HB.out | apply below_alloc | apply pw_below_drewN | apply below_drew1 | refine below_set ?_ GE133.out) | exact HB.out)⟩⟩
 case rest =>
  clear HC2
  try clear c1
  try clear p2
  try clear c4
  try clear c4b0
  try clear c4b1
  try clear c6
  try clear c6b0
  try clear c6b1
  try clear hcz5_0
  try clear hcz5_1
  try clear hcz5_2
  try clear hcz7_0
  try clear hcz7_1
  try clear hcz7_2
  try clear hcz8_0
  try clear hcz8_1
  try clear hcz8_2
  try clear hfz5_0
  try clear hfz5_1
  try clear hfz5_2
  try clear hfz7_0
  try clear hfz7_1
  try clear hfz7_2
  try clear hfz8_0
  try clear hfz8_1
  try clear hfz8_2
  obtain ⟨kq, x27_1, rfl, HA, HJ1, BK133, HB⟩ := hcut
  cases kq with
  | zero => exact absurd HA.out (by simp [blast_Check.j0])
  | succ kj1 =>
   have H := HA.out
   clear HA
   simp only [blast_Check.j0] at H
   by_cases c9 : x27_1 = true
   ·subst c9
    have H1 : (some 4) = some r := by rw [if_pos rfl] at H; exact H
    clear H
    have H := H1
    clear H1
    obtain rfl := Option.some.inj H
    go_wp2
    go_ret
    exact ⟨by first | rfl | (simp [errW_none, errW_some] <;> rfl) | (simp [*, errW_none, errW_some] <;> rfl), by repeat (first | (with_reducible first | exact HB.out | apply below_alloc | apply pw_below_drewN | apply below_drew1 | refine below_set ?_ GE133.out) | exact HB.out)⟩
   ·replace c9 := Bool.eq_false_iff.mpr c9
    subst c9
    have H1 : (blast_Check.l0 kj1 l0_0 (l0_0.length : Int) 0 l0_0 l0_1 l0_2) = some r := by rw [if_neg (show ¬ (false = true) by decide)] at H; exact H
    clear H
    have H := H1
    clear H1
    have H' := Aside0.mk H
    clear H
    have hcz10_0 : wc.cell? ⟨gb133, 0, none⟩ = some (.slice A0_0 l0_0.length c0_0) := (blk_cell BK133.out 0).trans rfl
    have hcz10_1 : wc.cell? ⟨gb133, 1, none⟩ = some (.slice A0_1 l0_1.length c0_1) := (blk_cell BK133.out 1).trans rfl
    have hcz10_2 : wc.cell? ⟨gb133, 2, none⟩ = some (.slice A0_2 l0_2.length c0_2) := (blk_cell BK133.out 2).trans rfl
    have hfz10_0 := blk_frozen BK133.out 0
    have hfz10_1 := blk_frozen BK133.out 1
    have hfz10_2 := blk_frozen BK133.out 2
    go_wp2
    go_loopg [31] kj1 (fun kq v31 w' => ∃ (x31_2 : Int), v31 = .int .i64 x31_2 ∧ Aside0 (blast_Check.l0 kq l0_0 (l0_0.length : Int) x31_2 l0_0 l0_1 l0_2 = some r) ∧ Aside0 (kq ≤ kj1) ∧ Aside0 (w'.heap[gb133]? = some (.cells #[(.slice A0_0 l0_0.length c0_0), (.slice A0_1 l0_1.length c0_1), (.slice A0_2 l0_2.length c0_2)] 32 (0, 0))) ∧ Aside0 (Below w.heap.size w w'))
    case atStart => exact ⟨(0), q10_, H', ⟨Nat.le_refl _⟩, ⟨by (with_reducible repeat (first | refine blk_drewN ?_ _ | refine blk_drew ?_ | refine blk_alloc ?_ _)); exact BK133.out⟩, ⟨by repeat (first | (with_reducible first | exact HB.out | apply below_alloc | apply pw_below_drewN | apply below_drew1 | refine below_set ?_ GE133.out) | exact HB.out)⟩⟩
    case round =>
     clear H'
     try clear c1
     try clear p2
     try clear c4
     try clear c4b0
     try clear c4b1
     try clear c6
     try clear c6b0
     try clear c6b1
     try clear c9
     try clear hcz10_0
     try clear hcz10_1
     try clear hcz10_2
     try clear hcz5_0
     try clear hcz5_1
     try clear hcz5_2
     try clear hcz7_0
     try clear hcz7_1
     try clear hcz7_2
     try clear hcz8_0
     try clear hcz8_1
     try clear hcz8_2
     try clear hfz10_0
     try clear hfz10_1
     try clear hfz10_2
     try clear hfz5_0
     try clear hfz5_1
     try clear hfz5_2
     try clear hfz7_0
     try clear hfz7_1
     try clear hfz7_2
     try clear hfz8_0
     try clear hfz8_1
     try clear hfz8_2
     try clear p2
     obtain ⟨x31_2, rfl, HA, HK2, BK133, HB⟩ := hrel
     cases gk with
     | zero => exact absurd HA.out (by simp [blast_Check.l0])
     | succ k2 =>
      have H := HA.out
      clear HA
      simp only [blast_Check.l0] at H
      by_cases c11 : x31_2 < (l0_0.length : Int)
      ·rw [if_pos c11] at H
       have c11b0 : decide (x31_2 < (l0_0.length : Int)) = true := decide_eq_true c11
       clear c11
       by_cases c12 : 0 ≤ x31_2
       ·rw [if_pos c12] at H
        have c12b0 : decide (0 ≤ x31_2) = true := decide_eq_true c12
        clear c12
        by_cases c13 : x31_2 < (l0_0.length : Int)
        ·rw [if_pos c13] at H
         have c13b0 : decide (x31_2 < (l0_0.length : Int)) = true := decide_eq_true c13
         clear c13
         replace H := Option.bind_eq_some_iff.mp H
         obtain ⟨t136, A140, H⟩ := H
         replace H : ((bits_Name.f k2 t136).bind fun t137 => (if t137 = true then (if ((rd_T44 l0_0 x31_2).f1) < 0 then (some 8) else (if ((rd_T44 l0_0 x31_2).f1) ≥ 64 then (some 8) else (if x31_2 > 0 then (if 0 ≤ (wrap64 (x31_2 - 1)) then (if (wrap64 (x31_2 - 1)) < (l0_0.length : Int) then ((blast_before.f ((rd_T44 l0_0 (wrap64 (x31_2 - 1))).f0) ((rd_T44 l0_0 (wrap64 (x31_2 - 1))).f1) ((rd_T44 l0_0 x31_2).f0) ((rd_T44 l0_0 x31_2).f1)).bind fun t139 => (if t139 = true then (blast_Check.l0 k2 l0_0 (l0_0.length : Int) (wrap64 (x31_2 + 1)) l0_0 l0_1 l0_2) else (some 8))) else (none)) else (none)) else (blast_Check.l0 k2 l0_0 (l0_0.length : Int) (wrap64 (x31_2 + 1)) l0_0 l0_1 l0_2)))) else (some 8))) = some r := H
         have A14 := Aside0.mk A140
         clear A140
         replace H := Option.bind_eq_some_iff.mp H
         obtain ⟨t137, A150, H⟩ := H
         replace H : (if t137 = true then (if ((rd_T44 l0_0 x31_2).f1) < 0 then (some 8) else (if ((rd_T44 l0_0 x31_2).f1) ≥ 64 then (some 8) else (if x31_2 > 0 then (if 0 ≤ (wrap64 (x31_2 - 1)) then (if (wrap64 (x31_2 - 1)) < (l0_0.length : Int) then ((blast_before.f ((rd_T44 l0_0 (wrap64 (x31_2 - 1))).f0) ((rd_T44 l0_0 (wrap64 (x31_2 - 1))).f1) ((rd_T44 l0_0 x31_2).f0) ((rd_T44 l0_0 x31_2).f1)).bind fun t139 => (if t139 = true then (blast_Check.l0 k2 l0_0 (l0_0.length : Int) (wrap64 (x31_2 + 1)) l0_0 l0_1 l0_2) else (some 8))) else (none)) else (none)) else (blast_Check.l0 k2 l0_0 (l0_0.length : Int) (wrap64 (x31_2 + 1)) l0_0 l0_1 l0_2)))) else (some 8)) = some r := H
         have A15 := Aside0.mk A150
         clear A150
         by_cases c16 : t137 = true
         ·subst c16
          have H1 : (if ((rd_T44 l0_0 x31_2).f1) < 0 then (some 8) else (if ((rd_T44 l0_0 x31_2).f1) ≥ 64 then (some 8) else (if x31_2 > 0 then (if 0 ≤ (wrap64 (x31_2 - 1)) then (if (wrap64 (x31_2 - 1)) < (l0_0.length : Int) then ((blast_before.f ((rd_T44 l0_0 (wrap64 (x31_2 - 1))).f0) ((rd_T44 l0_0 (wrap64 (x31_2 - 1))).f1) ((rd_T44 l0_0 x31_2).f0) ((rd_T44 l0_0 x31_2).f1)).bind fun t139 => (if t139 = true then (blast_Check.l0 k2 l0_0 (l0_0.length : Int) (wrap64 (x31_2 + 1)) l0_0 l0_1 l0_2) else (some 8))) else (none)) else (none)) else (blast_Check.l0 k2 l0_0 (l0_0.length : Int) (wrap64 (x31_2 + 1)) l0_0 l0_1 l0_2)))) = some r := by rw [if_pos rfl] at H; exact H
          clear H
          have H := H1
          clear H1
          by_cases c17 : ((rd_T44 l0_0 x31_2).f1) < 0
          ·rw [if_pos c17] at H
           have c17b0 : decide (((rd_T44 l0_0 x31_2).f1) < 0) = true := decide_eq_true c17
           clear c17
           obtain rfl := Option.some.inj H
           have p134 : 0 ≤ (x31_2 : Int) := of_decide_eq_true q2_
           have q134 : x31_2 < (l0_0.length : Int) := of_decide_eq_true q2_
           obtain ⟨ad134, e134, hx134_0, hx134_1⟩ := at_T44 HR0_0.out x31_2 p134 q134
           cases e134
           replace hx134_0 := (HB.out.cell (World.block_lt_of_cell? w _ hx134_0)).trans hx134_0
           replace hx134_1 := (HB.out.cell (World.block_lt_of_cell? w _ hx134_1)).trans hx134_1
           replace p134 := eq_true p134
           replace q134 := eq_true q134
           try go_wp2_with (first | ((with_reducible refine gate_dst (N := 4) rfl ?_); (try (refine gate_guard (by rfl) ?_; dsimp only)); refine box_event ?hg (N := 4) ?hd (cs := #[.string (⟨#[]⟩ : ByteArray), .int .i64 0]) (t := 44) ?hr ?_; (case hd => rfl); (case hg => rfl); (case hr => first | (go_simp; done) | (go_simp; rfl)); intro gb135 hg w18 hbox hb; have n0_ := Aside0.mk (blk_below (g := gb133) (o := .cells #[.slice (some ad134) l0_0.length c0_0, .slice A0_1 l0_1.length c0_1, .slice A0_2 l0_2.length c0_2] 32 (0, 0)) q8_ hb); have n1_ := Aside0.mk (below_step q7_ hb); have n2_ := Aside0.mk (hbox); have n3_ := Aside0.mk ((by rw [hg]; exact (below_size q7_) : w.heap.size ≤ gb135)); have n4_ := Aside0.mk ((by rw [hg]; exact (below_size q7_) : w.heap.size ≤ gb135)); have n5_ := Aside0.mk ((by rw [hg]; exact Nat.ne_of_lt (blk_lt (g := gb133) (o := .cells #[.slice (some ad134) l0_0.length c0_0, .slice A0_1 l0_1.length c0_1, .slice A0_2 l0_2.length c0_2] 32 (0, 0)) q8_) : gb133 ≠ gb135)); have n6_ := Aside0.mk ((by rw [hg]; exact Nat.ne_of_gt (blk_lt (g := gb133) (o := .cells #[.slice (some ad134) l0_0.length c0_0, .slice A0_1 l0_1.length c0_1, .slice A0_2 l0_2.length c0_2] 32 (0, 0)) q8_) : gb135 ≠ gb133)); clear BK133; clear HB; have BK133 := n0_; have HB := n1_; have BK135 := n2_; have GW135 := n3_; have GE135 := n4_; have NB133_135 := n5_; have NB135_133 := n6_; clear n0_ n1_ n2_ n3_ n4_ n5_ n6_; clear hb hbox hg; have hnb19 := NB135_133.out; have hnc19 := NB133_135.out; have hcz20_0 : w18.cell? ⟨gb135, 0, none⟩ = some (.string (⟨#[]⟩ : ByteArray)) := (blk_cell BK135.out 0).trans rfl; have hcz20_1 : w18.cell? ⟨gb135, 1, none⟩ = some (.int .i64 0) := (blk_cell BK135.out 1).trans rfl; have hfz20_0 := blk_frozen BK135.out 0; have hfz20_1 := blk_frozen BK135.out 1) | ((with_reducible refine gate_callee (f := 35) rfl ?_); refine goesL_ (some 38) rfl rfl Tryd.func35 q28_ rfl #[.string ((rd_T44 l0_0 x31_2).f0), .string (⟨#[114, 46]⟩ : ByteArray)] rfl q6_ ?_; (with_reducible refine (strings_TrimPrefix.calls ((rd_T44 l0_0 x31_2).f0) (⟨#[114, 46]⟩ : ByteArray) t136 _ A14.out).mono ?_); rintro e w' ⟨rfl, ⟨nd, rfl⟩⟩; refine ⟨_, rfl, ?_⟩) | ((with_reducible refine gate_callee (f := 34) rfl ?_); refine goesL_ (some 39) rfl rfl Tryd.func34 q28_ rfl #[.string t136] rfl q6_ ?_; (with_reducible refine (bits_Name.calls k2 t136 true _ A15.out).mono ?_); rintro e w' ⟨rfl, ⟨nd, rfl⟩⟩; refine ⟨_, rfl, ?_⟩))
           have n0_ : Aside0 (((w18.setCell ⟨gb135, 0, none⟩ (.string ((rd_T44 l0_0 x31_2).f0))).setCell ⟨gb135, 1, none⟩ (.int .i64 ((rd_T44 l0_0 x31_2).f1))).heap[gb133]? = some (.cells #[.slice (some ad134) l0_0.length c0_0, .slice A0_1 l0_1.length c0_1, .slice A0_2 l0_2.length c0_2] 32 (0, 0))) := ⟨by (with_reducible repeat (first | refine blk_drewN ?_ _ | refine blk_drew ?_ | refine blk_alloc ?_ _)); refine blk_far ?_ NB133_135.out _; (with_reducible repeat (first | refine blk_drewN ?_ _ | refine blk_drew ?_ | refine blk_alloc ?_ _)); refine blk_far ?_ NB133_135.out _; (with_reducible repeat (first | refine blk_drewN ?_ _ | refine blk_drew ?_ | refine blk_alloc ?_ _)); exact BK133.out⟩
           have n1_ : Aside0 (((w18.setCell ⟨gb135, 0, none⟩ (.string ((rd_T44 l0_0 x31_2).f0))).setCell ⟨gb135, 1, none⟩ (.int .i64 ((rd_T44 l0_0 x31_2).f1))).heap[gb135]? = some (.cells #[.string ((rd_T44 l0_0 x31_2).f0), .int .i64 ((rd_T44 l0_0 x31_2).f1)] 44 (0, 0))) := ⟨by (with_reducible repeat (first | refine blk_drewN ?_ _ | refine blk_drew ?_ | refine blk_alloc ?_ _)); refine blk_put (cs := #[.string ((rd_T44 l0_0 x31_2).f0), .int .i64 0]) ?_ 1 _ rfl; (with_reducible repeat (first | refine blk_drewN ?_ _ | refine blk_drew ?_ | refine blk_alloc ?_ _)); refine blk_put (cs := #[.string (⟨#[]⟩ : ByteArray), .int .i64 0]) ?_ 0 _ rfl; (with_reducible repeat (first | refine blk_drewN ?_ _ | refine blk_drew ?_ | refine blk_alloc ?_ _)); exact BK135.out⟩
           have n2_ : Aside0 (Below w.heap.size w ((w18.setCell ⟨gb135, 0, none⟩ (.string ((rd_T44 l0_0 x31_2).f0))).setCell ⟨gb135, 1, none⟩ (.int .i64 ((rd_T44 l0_0 x31_2).f1)))) := ⟨by repeat (first | (with_reducible first | exact HB.out | apply below_alloc | apply pw_below_drewN | apply below_drew1 | refine below_set ?_ GE133.out | refine below_set ?_ GE135.out) | exact HB.out)⟩
           (try clear BK133)
           (try clear BK135)
           (try clear HB)
           generalize ((w18.setCell ⟨gb135, 0, none⟩ (.string ((rd_T44 l0_0 x31_2).f0))).setCell ⟨gb135, 1, none⟩ (.int .i64 ((rd_T44 l0_0 x31_2).f1))) = w21 at n0_ n1_ n2_ ⊢
           have BK133 := n0_
           have BK135 := n1_
           have HB := n2_
           clear n0_ n1_ n2_
           (try (rw [drewN_self w21]; generalize hq_ : World.drewN w21 _ = w21; have n0_ : Aside0 (w21.heap[gb133]? = some (.cells #[.slice (some ad134) l0_0.length c0_0, .slice A0_1 l0_1.length c0_1, .slice A0_2 l0_2.length c0_2] 32 (0, 0))) := ⟨by rw [← hq_]; exact q8_⟩; have n1_ : Aside0 (w21.heap[gb135]? = some (.cells #[.string ((rd_T44 l0_0 x31_2).f0), .int .i64 ((rd_T44 l0_0 x31_2).f1)] 44 (0, 0))) := ⟨by rw [← hq_]; exact q34_⟩; have n2_ : Aside0 (Below w.heap.size w w21) := ⟨by rw [← hq_]; exact q20_⟩; clear BK133 BK135 HB hq_; have BK133 := n0_; have BK135 := n1_; have HB := n2_; clear n0_ n1_ n2_))
           have n0_ := Aside0.mk (blk_drew BK133.out)
           have n1_ := Aside0.mk (blk_drew BK135.out)
           have n2_ := Aside0.mk (below_drew1 HB.out)
           clear BK133
           clear BK135
           clear HB
           have BK133 := n0_
           have BK135 := n1_
           have HB := n2_
           clear n0_ n1_ n2_
           refine start_ (n := 27) (S := fun w' => w'.cell? ⟨gb135, 0, none⟩ = some (.string ((rd_T44 l0_0 x31_2).f0)) ∧ w'.cell? ⟨gb135, 1, none⟩ = some (.int .i64 ((rd_T44 l0_0 x31_2).f1))) (ds := []) #[false, false, false, false, false, false, false, false, false, false, false, false, false, false, false, false, false, false, false, false, false, false, false, false, false, false, false] q28_ rfl rfl ⟨(blk_cell BK135.out 0).trans rfl, (blk_cell BK135.out 1).trans rfl⟩ (fun hHeld => ?_); refine with_tabW blast_Check.tab7 blast_Check.bits7 (fun HT_ HW_ => ?_)
           generalize w21.drew = w22 at BK133 BK135 HB hHeld ⊢
           refine pz_ (i := 0) (N := some 40) (h := ?_)
           refine pz_ (i := 1) (N := some 41) (h := ?_)
           refine pz_ (i := 2) (N := some 42) (h := ?_)
           refine pz_ (i := 3) (N := some 43) (h := ?_)
           refine tz_ (i := 4) (N := some 44) (h := ?_)
           refine pz_ (i := 5) (N := some 45) (h := ?_)
           refine pz_ (i := 6) (N := some 46) (h := ?_)
           refine pz_ (i := 7) (N := some 47) (h := ?_)
           refine oz_ (i := 8) (N := some 48) (h := ?_)
           refine oz_ (i := 9) (N := some 49) (h := ?_)
           refine oz_ (i := 10) (N := some 50) (h := ?_)
           refine pz_ (i := 11) (N := some 51) (h := ?_)
           refine pz_ (i := 12) (N := some 52) (h := ?_)
           refine oz_ (i := 13) (N := some 53) (h := ?_)
           refine oz_ (i := 14) (N := some 54) (h := ?_)
           refine oz_ (i := 15) (N := some 55) (h := ?_)
           refine oz_ (i := 16) (N := some 56) (h := ?_)
           refine oz_ (i := 17) (N := some 57) (h := ?_)
           refine oz_ (i := 18) (N := some 58) (h := ?_)
           refine oz_ (i := 19) (N := some 59) (h := ?_)
           refine oz_ (i := 20) (N := some 60) (h := ?_)
           refine oz_ (i := 21) (N := some 61) (h := ?_)
           refine oz_ (i := 22) (N := some 62) (h := ?_)
           refine oz_ (i := 23) (N := some 63) (h := ?_)
           refine oz_ (i := 24) (N := some 64) (h := ?_)
           refine oz_ (i := 25) (N := some 65) (h := ?_)
           refine pz_ (i := 26) (N := some 66) (h := ?_)
           refine done_ (done_of HT_.out q28_) ?_
           try go_wp2
           go_ret
           exact ⟨by first | rfl | (simp [errW_none, errW_some] <;> rfl) | (simp [*, errW_none, errW_some] <;> rfl), by repeat (first | (with_reducible first | exact HB.out | apply below_alloc | apply pw_below_drewN | apply below_drew1 | refine below_set ?_ GE133.out | refine below_set ?_ GE135.out) | exact HB.out)⟩
          ·rw [if_neg c17] at H
           have c17b0 : decide (((rd_T44 l0_0 x31_2).f1) < 0) = false := decide_eq_false c17
           clear c17
           by_cases c23 : ((rd_T44 l0_0 x31_2).f1) ≥ 64
           ·rw [if_pos c23] at H
            have c23b0 : decide (64 ≤ ((rd_T44 l0_0 x31_2).f1)) = true := decide_eq_true c23
            clear c23
            obtain rfl := Option.some.inj H
            have p134 : 0 ≤ (x31_2 : Int) := of_decide_eq_true q2_
            have q134 : x31_2 < (l0_0.length : Int) := of_decide_eq_true q2_
            obtain ⟨ad134, e134, hx134_0, hx134_1⟩ := at_T44 HR0_0.out x31_2 p134 q134
            cases e134
            replace hx134_0 := (HB.out.cell (World.block_lt_of_cell? w _ hx134_0)).trans hx134_0
            replace hx134_1 := (HB.out.cell (World.block_lt_of_cell? w _ hx134_1)).trans hx134_1
            replace p134 := eq_true p134
            replace q134 := eq_true q134
            try go_wp2_with (first | ((with_reducible refine gate_dst (N := 4) rfl ?_); (try (refine gate_guard (by rfl) ?_; dsimp only)); refine box_event ?hg (N := 4) ?hd (cs := #[.string (⟨#[]⟩ : ByteArray), .int .i64 0]) (t := 44) ?hr ?_; (case hd => rfl); (case hg => rfl); (case hr => first | (go_simp; done) | (go_simp; rfl)); intro gb135 hg w24 hbox hb; have n0_ := Aside0.mk (blk_below (g := gb133) (o := .cells #[.slice (some ad134) l0_0.length c0_0, .slice A0_1 l0_1.length c0_1, .slice A0_2 l0_2.length c0_2] 32 (0, 0)) q8_ hb); have n1_ := Aside0.mk (below_step q7_ hb); have n2_ := Aside0.mk (hbox); have n3_ := Aside0.mk ((by rw [hg]; exact (below_size q7_) : w.heap.size ≤ gb135)); have n4_ := Aside0.mk ((by rw [hg]; exact (below_size q7_) : w.heap.size ≤ gb135)); have n5_ := Aside0.mk ((by rw [hg]; exact Nat.ne_of_lt (blk_lt (g := gb133) (o := .cells #[.slice (some ad134) l0_0.length c0_0, .slice A0_1 l0_1.length c0_1, .slice A0_2 l0_2.length c0_2] 32 (0, 0)) q8_) : gb133 ≠ gb135)); have n6_ := Aside0.mk ((by rw [hg]; exact Nat.ne_of_gt (blk_lt (g := gb133) (o := .cells #[.slice (some ad134) l0_0.length c0_0, .slice A0_1 l0_1.length c0_1, .slice A0_2 l0_2.length c0_2] 32 (0, 0)) q8_) : gb135 ≠ gb133)); clear BK133; clear HB; have BK133 := n0_; have HB := n1_; have BK135 := n2_; have GW135 := n3_; have GE135 := n4_; have NB133_135 := n5_; have NB135_133 := n6_; clear n0_ n1_ n2_ n3_ n4_ n5_ n6_; clear hb hbox hg; have hnb25 := NB135_133.out; have hnc25 := NB133_135.out; have hcz26_0 : w24.cell? ⟨gb135, 0, none⟩ = some (.string (⟨#[]⟩ : ByteArray)) := (blk_cell BK135.out 0).trans rfl; have hcz26_1 : w24.cell? ⟨gb135, 1, none⟩ = some (.int .i64 0) := (blk_cell BK135.out 1).trans rfl; have hfz26_0 := blk_frozen BK135.out 0; have hfz26_1 := blk_frozen BK135.out 1) | ((with_reducible refine gate_callee (f := 35) rfl ?_); refine goesL_ (some 38) rfl rfl Tryd.func35 q28_ rfl #[.string ((rd_T44 l0_0 x31_2).f0), .string (⟨#[114, 46]⟩ : ByteArray)] rfl q6_ ?_; (with_reducible refine (strings_TrimPrefix.calls ((rd_T44 l0_0 x31_2).f0) (⟨#[114, 46]⟩ : ByteArray) t136 _ A14.out).mono ?_); rintro e w' ⟨rfl, ⟨nd, rfl⟩⟩; refine ⟨_, rfl, ?_⟩) | ((with_reducible refine gate_callee (f := 34) rfl ?_); refine goesL_ (some 39) rfl rfl Tryd.func34 q28_ rfl #[.string t136] rfl q6_ ?_; (with_reducible refine (bits_Name.calls k2 t136 true _ A15.out).mono ?_); rintro e w' ⟨rfl, ⟨nd, rfl⟩⟩; refine ⟨_, rfl, ?_⟩))
            have n0_ : Aside0 (((w24.setCell ⟨gb135, 0, none⟩ (.string ((rd_T44 l0_0 x31_2).f0))).setCell ⟨gb135, 1, none⟩ (.int .i64 ((rd_T44 l0_0 x31_2).f1))).heap[gb133]? = some (.cells #[.slice (some ad134) l0_0.length c0_0, .slice A0_1 l0_1.length c0_1, .slice A0_2 l0_2.length c0_2] 32 (0, 0))) := ⟨by (with_reducible repeat (first | refine blk_drewN ?_ _ | refine blk_drew ?_ | refine blk_alloc ?_ _)); refine blk_far ?_ NB133_135.out _; (with_reducible repeat (first | refine blk_drewN ?_ _ | refine blk_drew ?_ | refine blk_alloc ?_ _)); refine blk_far ?_ NB133_135.out _; (with_reducible repeat (first | refine blk_drewN ?_ _ | refine blk_drew ?_ | refine blk_alloc ?_ _)); exact BK133.out⟩
            have n1_ : Aside0 (((w24.setCell ⟨gb135, 0, none⟩ (.string ((rd_T44 l0_0 x31_2).f0))).setCell ⟨gb135, 1, none⟩ (.int .i64 ((rd_T44 l0_0 x31_2).f1))).heap[gb135]? = some (.cells #[.string ((rd_T44 l0_0 x31_2).f0), .int .i64 ((rd_T44 l0_0 x31_2).f1)] 44 (0, 0))) := ⟨by (with_reducible repeat (first | refine blk_drewN ?_ _ | refine blk_drew ?_ | refine blk_alloc ?_ _)); refine blk_put (cs := #[.string ((rd_T44 l0_0 x31_2).f0), .int .i64 0]) ?_ 1 _ rfl; (with_reducible repeat (first | refine blk_drewN ?_ _ | refine blk_drew ?_ | refine blk_alloc ?_ _)); refine blk_put (cs := #[.string (⟨#[]⟩ : ByteArray), .int .i64 0]) ?_ 0 _ rfl; (with_reducible repeat (first | refine blk_drewN ?_ _ | refine blk_drew ?_ | refine blk_alloc ?_ _)); exact BK135.out⟩
            have n2_ : Aside0 (Below w.heap.size w ((w24.setCell ⟨gb135, 0, none⟩ (.string ((rd_T44 l0_0 x31_2).f0))).setCell ⟨gb135, 1, none⟩ (.int .i64 ((rd_T44 l0_0 x31_2).f1)))) := ⟨by repeat (first | (with_reducible first | exact HB.out | apply below_alloc | apply pw_below_drewN | apply below_drew1 | refine below_set ?_ GE133.out | refine below_set ?_ GE135.out) | exact HB.out)⟩
            (try clear BK133)
            (try clear BK135)
            (try clear HB)
            generalize ((w24.setCell ⟨gb135, 0, none⟩ (.string ((rd_T44 l0_0 x31_2).f0))).setCell ⟨gb135, 1, none⟩ (.int .i64 ((rd_T44 l0_0 x31_2).f1))) = w27 at n0_ n1_ n2_ ⊢
            have BK133 := n0_
            have BK135 := n1_
            have HB := n2_
            clear n0_ n1_ n2_
            (try (rw [drewN_self w27]; generalize hq_ : World.drewN w27 _ = w27; have n0_ : Aside0 (w27.heap[gb133]? = some (.cells #[.slice (some ad134) l0_0.length c0_0, .slice A0_1 l0_1.length c0_1, .slice A0_2 l0_2.length c0_2] 32 (0, 0))) := ⟨by rw [← hq_]; exact q8_⟩; have n1_ : Aside0 (w27.heap[gb135]? = some (.cells #[.string ((rd_T44 l0_0 x31_2).f0), .int .i64 ((rd_T44 l0_0 x31_2).f1)] 44 (0, 0))) := ⟨by rw [← hq_]; exact q34_⟩; have n2_ : Aside0 (Below w.heap.size w w27) := ⟨by rw [← hq_]; exact q20_⟩; clear BK133 BK135 HB hq_; have BK133 := n0_; have BK135 := n1_; have HB := n2_; clear n0_ n1_ n2_))
            have n0_ := Aside0.mk (blk_drew BK133.out)
            have n1_ := Aside0.mk (blk_drew BK135.out)
            have n2_ := Aside0.mk (below_drew1 HB.out)
            clear BK133
            clear BK135
            clear HB
            have BK133 := n0_
            have BK135 := n1_
            have HB := n2_
            clear n0_ n1_ n2_
            refine start_ (n := 27) (S := fun w' => w'.cell? ⟨gb135, 0, none⟩ = some (.string ((rd_T44 l0_0 x31_2).f0)) ∧ w'.cell? ⟨gb135, 1, none⟩ = some (.int .i64 ((rd_T44 l0_0 x31_2).f1))) (ds := []) #[false, false, false, false, false, false, false, false, false, false, false, false, false, false, false, false, false, false, false, false, false, false, false, false, false, false, false] q28_ rfl rfl ⟨(blk_cell BK135.out 0).trans rfl, (blk_cell BK135.out 1).trans rfl⟩ (fun hHeld => ?_); refine with_tabW blast_Check.tab7 blast_Check.bits7 (fun HT_ HW_ => ?_)
            generalize w27.drew = w28 at BK133 BK135 HB hHeld ⊢
            refine pz_ (i := 0) (N := some 40) (h := ?_)
            refine pz_ (i := 1) (N := some 41) (h := ?_)
            refine pz_ (i := 2) (N := some 42) (h := ?_)
            refine pz_ (i := 3) (N := some 43) (h := ?_)
            refine tz_ (i := 4) (N := some 44) (h := ?_)
            refine pz_ (i := 5) (N := some 45) (h := ?_)
            refine pz_ (i := 6) (N := some 46) (h := ?_)
            refine pz_ (i := 7) (N := some 47) (h := ?_)
            refine pz_ (i := 8) (N := some 48) (h := ?_)
            refine tz_ (i := 9) (N := some 49) (h := ?_)
            refine pz_ (i := 10) (N := some 50) (h := ?_)
            refine pz_ (i := 11) (N := some 51) (h := ?_)
            refine pz_ (i := 12) (N := some 52) (h := ?_)
            refine oz_ (i := 13) (N := some 53) (h := ?_)
            refine oz_ (i := 14) (N := some 54) (h := ?_)
            refine oz_ (i := 15) (N := some 55) (h := ?_)
            refine oz_ (i := 16) (N := some 56) (h := ?_)
            refine oz_ (i := 17) (N := some 57) (h := ?_)
            refine oz_ (i := 18) (N := some 58) (h := ?_)
            refine oz_ (i := 19) (N := some 59) (h := ?_)
            refine oz_ (i := 20) (N := some 60) (h := ?_)
            refine oz_ (i := 21) (N := some 61) (h := ?_)
            refine oz_ (i := 22) (N := some 62) (h := ?_)
            refine oz_ (i := 23) (N := some 63) (h := ?_)
            refine oz_ (i := 24) (N := some 64) (h := ?_)
            refine oz_ (i := 25) (N := some 65) (h := ?_)
            refine pz_ (i := 26) (N := some 66) (h := ?_)
            refine done_ (done_of HT_.out q28_) ?_
            try go_wp2
            go_ret
            exact ⟨by first | rfl | (simp [errW_none, errW_some] <;> rfl) | (simp [*, errW_none, errW_some] <;> rfl), by repeat (first | (with_reducible first | exact HB.out | apply below_alloc | apply pw_below_drewN | apply below_drew1 | refine below_set ?_ GE133.out | refine below_set ?_ GE135.out) | exact HB.out)⟩
           ·rw [if_neg c23] at H
            have c23b0 : decide (64 ≤ ((rd_T44 l0_0 x31_2).f1)) = false := decide_eq_false c23
            clear c23
            by_cases c29 : x31_2 > 0
            ·rw [if_pos c29] at H
             have c29b0 : decide (0 < x31_2) = true := decide_eq_true c29
             clear c29
             obtain ⟨ji30, hji30⟩ : ∃ j_ : Int, (wrap64 (x31_2 - 1)) = j_ := ⟨_, rfl⟩
             replace H : (if 0 ≤ (ji30) then (if (ji30) < (l0_0.length : Int) then ((blast_before.f ((rd_T44 l0_0 (ji30)).f0) ((rd_T44 l0_0 (ji30)).f1) ((rd_T44 l0_0 x31_2).f0) ((rd_T44 l0_0 x31_2).f1)).bind fun t139 => (if t139 = true then (blast_Check.l0 k2 l0_0 (l0_0.length : Int) (wrap64 (x31_2 + 1)) l0_0 l0_1 l0_2) else (some 8))) else (none)) else (none)) = some r := by first | (rw [hji30] at H; exact H) | (simp only [hji30] at H ⊢; exact H)
             (try rw [hji30] at A14)
             (try rw [hji30] at A15)
             have hji30w : (IntKind.i64.wrap (x31_2 - 1)) = ji30 := (i64_w _).trans hji30
             by_cases c31 : 0 ≤ (ji30)
             ·rw [if_pos c31] at H
              have c31b0 : decide (0 ≤ (ji30)) = true := decide_eq_true c31
              clear c31
              by_cases c32 : (ji30) < (l0_0.length : Int)
              ·rw [if_pos c32] at H
               have c32b0 : decide ((ji30) < (l0_0.length : Int)) = true := decide_eq_true c32
               clear c32
               replace H := Option.bind_eq_some_iff.mp H
               obtain ⟨t139, A330, H⟩ := H
               replace H : (if t139 = true then (blast_Check.l0 k2 l0_0 (l0_0.length : Int) (wrap64 (x31_2 + 1)) l0_0 l0_1 l0_2) else (some 8)) = some r := H
               have A33 := Aside0.mk A330
               clear A330
               by_cases c34 : t139 = true
               ·subst c34
                have H1 : (blast_Check.l0 k2 l0_0 (l0_0.length : Int) (wrap64 (x31_2 + 1)) l0_0 l0_1 l0_2) = some r := by rw [if_pos rfl] at H; exact H
                clear H
                have H := H1
                clear H1
                have H' := Aside0.mk H
                clear H
                have p134 : 0 ≤ (x31_2 : Int) := of_decide_eq_true q2_
                have q134 : x31_2 < (l0_0.length : Int) := of_decide_eq_true q2_
                obtain ⟨ad134, e134, hx134_0, hx134_1⟩ := at_T44 HR0_0.out x31_2 p134 q134
                cases e134
                replace hx134_0 := (HB.out.cell (World.block_lt_of_cell? w _ hx134_0)).trans hx134_0
                replace hx134_1 := (HB.out.cell (World.block_lt_of_cell? w _ hx134_1)).trans hx134_1
                replace p134 := eq_true p134
                replace q134 := eq_true q134
                try go_wp2_with (first | ((with_reducible refine gate_dst (N := 4) rfl ?_); (try (refine gate_guard (by rfl) ?_; dsimp only)); refine box_event ?hg (N := 4) ?hd (cs := #[.string (⟨#[]⟩ : ByteArray), .int .i64 0]) (t := 44) ?hr ?_; (case hd => rfl); (case hg => rfl); (case hr => first | (go_simp; done) | (go_simp; rfl)); intro gb135 hg w35 hbox hb; have n0_ := Aside0.mk (blk_below (g := gb133) (o := .cells #[.slice (some ad134) l0_0.length c0_0, .slice A0_1 l0_1.length c0_1, .slice A0_2 l0_2.length c0_2] 32 (0, 0)) q8_ hb); have n1_ := Aside0.mk (below_step q7_ hb); have n2_ := Aside0.mk (hbox); have n3_ := Aside0.mk ((by rw [hg]; exact (below_size q7_) : w.heap.size ≤ gb135)); have n4_ := Aside0.mk ((by rw [hg]; exact (below_size q7_) : w.heap.size ≤ gb135)); have n5_ := Aside0.mk ((by rw [hg]; exact Nat.ne_of_lt (blk_lt (g := gb133) (o := .cells #[.slice (some ad134) l0_0.length c0_0, .slice A0_1 l0_1.length c0_1, .slice A0_2 l0_2.length c0_2] 32 (0, 0)) q8_) : gb133 ≠ gb135)); have n6_ := Aside0.mk ((by rw [hg]; exact Nat.ne_of_gt (blk_lt (g := gb133) (o := .cells #[.slice (some ad134) l0_0.length c0_0, .slice A0_1 l0_1.length c0_1, .slice A0_2 l0_2.length c0_2] 32 (0, 0)) q8_) : gb135 ≠ gb133)); clear BK133; clear HB; have BK133 := n0_; have HB := n1_; have BK135 := n2_; have GW135 := n3_; have GE135 := n4_; have NB133_135 := n5_; have NB135_133 := n6_; clear n0_ n1_ n2_ n3_ n4_ n5_ n6_; clear hb hbox hg; have hnb36 := NB135_133.out; have hnc36 := NB133_135.out; have hcz37_0 : w35.cell? ⟨gb135, 0, none⟩ = some (.string (⟨#[]⟩ : ByteArray)) := (blk_cell BK135.out 0).trans rfl; have hcz37_1 : w35.cell? ⟨gb135, 1, none⟩ = some (.int .i64 0) := (blk_cell BK135.out 1).trans rfl; have hfz37_0 := blk_frozen BK135.out 0; have hfz37_1 := blk_frozen BK135.out 1) | ((with_reducible refine gate_callee (f := 35) rfl ?_); refine goesL_ (some 38) rfl rfl Tryd.func35 q28_ rfl #[.string ((rd_T44 l0_0 x31_2).f0), .string (⟨#[114, 46]⟩ : ByteArray)] rfl q6_ ?_; (with_reducible refine (strings_TrimPrefix.calls ((rd_T44 l0_0 x31_2).f0) (⟨#[114, 46]⟩ : ByteArray) t136 _ A14.out).mono ?_); rintro e w' ⟨rfl, ⟨nd, rfl⟩⟩; refine ⟨_, rfl, ?_⟩) | ((with_reducible refine gate_callee (f := 34) rfl ?_); refine goesL_ (some 39) rfl rfl Tryd.func34 q28_ rfl #[.string t136] rfl q6_ ?_; (with_reducible refine (bits_Name.calls k2 t136 true _ A15.out).mono ?_); rintro e w' ⟨rfl, ⟨nd, rfl⟩⟩; refine ⟨_, rfl, ?_⟩))
                have n0_ : Aside0 (((w35.setCell ⟨gb135, 0, none⟩ (.string ((rd_T44 l0_0 x31_2).f0))).setCell ⟨gb135, 1, none⟩ (.int .i64 ((rd_T44 l0_0 x31_2).f1))).heap[gb133]? = some (.cells #[.slice (some ad134) l0_0.length c0_0, .slice A0_1 l0_1.length c0_1, .slice A0_2 l0_2.length c0_2] 32 (0, 0))) := ⟨by (with_reducible repeat (first | refine blk_drewN ?_ _ | refine blk_drew ?_ | refine blk_alloc ?_ _)); refine blk_far ?_ NB133_135.out _; (with_reducible repeat (first | refine blk_drewN ?_ _ | refine blk_drew ?_ | refine blk_alloc ?_ _)); refine blk_far ?_ NB133_135.out _; (with_reducible repeat (first | refine blk_drewN ?_ _ | refine blk_drew ?_ | refine blk_alloc ?_ _)); exact BK133.out⟩
                have n1_ : Aside0 (((w35.setCell ⟨gb135, 0, none⟩ (.string ((rd_T44 l0_0 x31_2).f0))).setCell ⟨gb135, 1, none⟩ (.int .i64 ((rd_T44 l0_0 x31_2).f1))).heap[gb135]? = some (.cells #[.string ((rd_T44 l0_0 x31_2).f0), .int .i64 ((rd_T44 l0_0 x31_2).f1)] 44 (0, 0))) := ⟨by (with_reducible repeat (first | refine blk_drewN ?_ _ | refine blk_drew ?_ | refine blk_alloc ?_ _)); refine blk_put (cs := #[.string ((rd_T44 l0_0 x31_2).f0), .int .i64 0]) ?_ 1 _ rfl; (with_reducible repeat (first | refine blk_drewN ?_ _ | refine blk_drew ?_ | refine blk_alloc ?_ _)); refine blk_put (cs := #[.string (⟨#[]⟩ : ByteArray), .int .i64 0]) ?_ 0 _ rfl; (with_reducible repeat (first | refine blk_drewN ?_ _ | refine blk_drew ?_ | refine blk_alloc ?_ _)); exact BK135.out⟩
                have n2_ : Aside0 (Below w.heap.size w ((w35.setCell ⟨gb135, 0, none⟩ (.string ((rd_T44 l0_0 x31_2).f0))).setCell ⟨gb135, 1, none⟩ (.int .i64 ((rd_T44 l0_0 x31_2).f1)))) := ⟨by repeat (first | (with_reducible first | exact HB.out | apply below_alloc | apply pw_below_drewN | apply below_drew1 | refine below_set ?_ GE133.out | refine below_set ?_ GE135.out) | exact HB.out)⟩
                (try clear BK133)
                (try clear BK135)
                (try clear HB)
                generalize ((w35.setCell ⟨gb135, 0, none⟩ (.string ((rd_T44 l0_0 x31_2).f0))).setCell ⟨gb135, 1, none⟩ (.int .i64 ((rd_T44 l0_0 x31_2).f1))) = w38 at n0_ n1_ n2_ ⊢
                have BK133 := n0_
                have BK135 := n1_
                have HB := n2_
                clear n0_ n1_ n2_
                (try (rw [drewN_self w38]; generalize hq_ : World.drewN w38 _ = w38; have n0_ : Aside0 (w38.heap[gb133]? = some (.cells #[.slice (some ad134) l0_0.length c0_0, .slice A0_1 l0_1.length c0_1, .slice A0_2 l0_2.length c0_2] 32 (0, 0))) := ⟨by rw [← hq_]; exact q8_⟩; have n1_ : Aside0 (w38.heap[gb135]? = some (.cells #[.string ((rd_T44 l0_0 x31_2).f0), .int .i64 ((rd_T44 l0_0 x31_2).f1)] 44 (0, 0))) := ⟨by rw [← hq_]; exact q34_⟩; have n2_ : Aside0 (Below w.heap.size w w38) := ⟨by rw [← hq_]; exact q20_⟩; clear BK133 BK135 HB hq_; have BK133 := n0_; have BK135 := n1_; have HB := n2_; clear n0_ n1_ n2_))
                have n0_ := Aside0.mk (blk_drew BK133.out)
                have n1_ := Aside0.mk (blk_drew BK135.out)
                have n2_ := Aside0.mk (below_drew1 HB.out)
                clear BK133
                clear BK135
                clear HB
                have BK133 := n0_
                have BK135 := n1_
                have HB := n2_
                clear n0_ n1_ n2_
                have p138 : 0 ≤ ((ji30) : Int) := of_decide_eq_true q2_
                have q138 : (ji30) < (l0_0.length : Int) := of_decide_eq_true q2_
                obtain ⟨ad138, e138, hx138_0, hx138_1⟩ := at_T44 HR0_0.out (ji30) p138 q138
                have hw138_1 := hx138_1
                have hw138_0 := hx138_0
                obtain rfl : ad134 = ad138 := (by injection e138)
                replace hx138_0 := (HB.out.cell (World.block_lt_of_cell? w _ hx138_0)).trans hx138_0
                replace hx138_1 := (HB.out.cell (World.block_lt_of_cell? w _ hx138_1)).trans hx138_1
                replace p138 := eq_true p138
                replace q138 := eq_true q138
                refine start_ (n := 27) (S := fun w' => w'.cell? ⟨gb135, 0, none⟩ = some (.string ((rd_T44 l0_0 x31_2).f0)) ∧ w'.cell? ⟨gb135, 1, none⟩ = some (.int .i64 ((rd_T44 l0_0 x31_2).f1)) ∧ w'.cell? ⟨gb133, 0, none⟩ = some (.slice (some ad134) l0_0.length c0_0) ∧ w'.cell? ⟨gb133, 1, none⟩ = some (.slice A0_1 l0_1.length c0_1) ∧ w'.cell? ⟨gb133, 2, none⟩ = some (.slice A0_2 l0_2.length c0_2) ∧ w'.cell? (ad134.add (((ji30)).toNat * 2)) = some (.string ((rd_T44 l0_0 (ji30)).f0)) ∧ w'.cell? ⟨(ad134.add (((ji30)).toNat * 2)).block, (ad134.add (((ji30)).toNat * 2)).off + 1, none⟩ = some (.int .i64 ((rd_T44 l0_0 (ji30)).f1))) (ds := []) #[false, false, false, false, false, false, false, false, false, false, false, false, false, false, false, false, false, false, false, false, false, false, false, false, false, false, false] q28_ rfl rfl ⟨(blk_cell BK135.out 0).trans rfl, (blk_cell BK135.out 1).trans rfl, (blk_cell BK133.out 0).trans rfl, (blk_cell BK133.out 1).trans rfl, (blk_cell BK133.out 2).trans rfl, ((HB.out.cell (World.block_lt_of_cell? w _ hw138_0)).trans hw138_0), ((HB.out.cell (World.block_lt_of_cell? w _ hw138_1)).trans hw138_1)⟩ (fun hHeld => ?_); refine with_tabW blast_Check.tab7 blast_Check.bits7 (fun HT_ HW_ => ?_)
                generalize w38.drew = w39 at BK133 BK135 HB hx138_0 hx138_1 hHeld ⊢
                refine pz_ (i := 0) (N := some 40) (h := ?_)
                refine pz_ (i := 1) (N := some 41) (h := ?_)
                refine pz_ (i := 2) (N := some 42) (h := ?_)
                refine pz_ (i := 3) (N := some 43) (h := ?_)
                refine tz_ (i := 4) (N := some 44) (h := ?_)
                refine pz_ (i := 5) (N := some 45) (h := ?_)
                refine pz_ (i := 6) (N := some 46) (h := ?_)
                refine pz_ (i := 7) (N := some 47) (h := ?_)
                refine pz_ (i := 8) (N := some 48) (h := ?_)
                refine tz_ (i := 9) (N := some 49) (h := ?_)
                refine pz_ (i := 10) (N := some 50) (h := ?_)
                refine pz_ (i := 11) (N := some 51) (h := ?_)
                refine pz_ (i := 12) (N := some 52) (h := ?_)
                refine pz_ (i := 13) (N := some 53) (h := ?_)
                refine pz_ (i := 14) (N := some 54) (h := ?_)
                refine pz_ (i := 15) (N := some 55) (h := ?_)
                refine pz_ (i := 16) (N := some 56) (h := ?_)
                refine pz_ (i := 18) (N := some 58) (h := ?_)
                refine pz_ (i := 19) (N := some 59) (h := ?_)
                refine tz_ (i := 17) (N := some 57) (h := ?_)
                refine pz_ (i := 20) (N := some 60) (h := ?_)
                refine tz_ (i := 21) (N := some 61) (h := ?_)
                refine tz_ (i := 22) (N := some 62) (h := ?_)
                refine nz_ (i := 23) (N := some 63) (h := fun K hK => ?_)
                refine goes_ Tryd.func36 q28_ rfl #[.agg #[.string ((rd_T44 l0_0 (ji30)).f0), .int .i64 ((rd_T44 l0_0 (ji30)).f1)], .agg #[.string ((rd_T44 l0_0 x31_2).f0), .int .i64 ((rd_T44 l0_0 x31_2).f1)]] (by rfl) rfl rfl (by (try simp only [List.map_toArray, List.map_cons, List.map_nil]); first | done | (simp only [hji30]; rfl) | rfl | (simp only [List.length_drop, List.length_take]; rfl)) ?_
                with_reducible refine (blast_before.calls ((rd_T44 l0_0 (ji30)).f0) ((rd_T44 l0_0 (ji30)).f1) ((rd_T44 l0_0 x31_2).f0) ((rd_T44 l0_0 x31_2).f1) true _ A33.out).mono ?_
                rintro e w40 ⟨rfl, hb⟩
                refine ⟨_, rfl, ?_⟩
                have n0_ := Aside0.mk (blk_below (g := gb133) (o := .cells #[.slice (some ad134) l0_0.length c0_0, .slice A0_1 l0_1.length c0_1, .slice A0_2 l0_2.length c0_2] 32 (0, 0)) q8_ hb)
                have n1_ := Aside0.mk (blk_below (g := gb135) (o := .cells #[.string ((rd_T44 l0_0 x31_2).f0), .int .i64 ((rd_T44 l0_0 x31_2).f1)] 44 (0, 0)) q34_ hb)
                have n2_ := Aside0.mk (below_step q20_ hb)
                clear BK133
                clear BK135
                clear HB
                have BK133 := n0_
                have BK135 := n1_
                have HB := n2_
                clear n0_ n1_ n2_
                (try clear hb)
                (try clear hb2)
                (try clear hk)
                (try clear hi)
                refine hK.out _ _ ⟨(blk_cell BK135.out 0).trans rfl, (blk_cell BK135.out 1).trans rfl, (blk_cell BK133.out 0).trans rfl, (blk_cell BK133.out 1).trans rfl, (blk_cell BK133.out 2).trans rfl, ((HB.out.cell (World.block_lt_of_cell? w _ hw138_0)).trans hw138_0), ((HB.out.cell (World.block_lt_of_cell? w _ hw138_1)).trans hw138_1)⟩ (fun hHeld => ?_)
                clear hK K
                refine mz_ (some 63) (h := ?_)
                refine pz_ (i := 24) (N := some 64) (h := ?_)
                refine pz_ (i := 25) (N := some 65) (h := ?_)
                refine pz_ (i := 26) (N := some 66) (h := ?_)
                refine done_ (done_of HT_.out q28_) ?_
                try go_wp2
                go_roundg k2
                case measure => have := HJ1.out; have := HK2.out; omega
                case rel => exact ⟨(wrap64 (x31_2 + 1)), q10_, H', ⟨by have := HJ1.out; have := HK2.out; omega⟩, ⟨by (with_reducible repeat (first | refine blk_drewN ?_ _ | refine blk_drew ?_ | refine blk_alloc ?_ _)); exact BK133.out⟩, ⟨by repeat (first | (with_reducible first | exact HB.out | apply below_alloc | apply pw_below_drewN | apply below_drew1 | refine below_set ?_ GE133.out | refine below_set ?_ GE135.out) | exact HB.out)⟩⟩
               ·replace c34 := Bool.eq_false_iff.mpr c34
                subst c34
                have H1 : (some 8) = some r := by rw [if_neg (show ¬ (false = true) by decide)] at H; exact H
                clear H
                have H := H1
                clear H1
                obtain rfl := Option.some.inj H
                have p134 : 0 ≤ (x31_2 : Int) := of_decide_eq_true q2_
                have q134 : x31_2 < (l0_0.length : Int) := of_decide_eq_true q2_
                obtain ⟨ad134, e134, hx134_0, hx134_1⟩ := at_T44 HR0_0.out x31_2 p134 q134
                cases e134
                replace hx134_0 := (HB.out.cell (World.block_lt_of_cell? w _ hx134_0)).trans hx134_0
                replace hx134_1 := (HB.out.cell (World.block_lt_of_cell? w _ hx134_1)).trans hx134_1
                replace p134 := eq_true p134
                replace q134 := eq_true q134
                try go_wp2_with (first | ((with_reducible refine gate_dst (N := 4) rfl ?_); (try (refine gate_guard (by rfl) ?_; dsimp only)); refine box_event ?hg (N := 4) ?hd (cs := #[.string (⟨#[]⟩ : ByteArray), .int .i64 0]) (t := 44) ?hr ?_; (case hd => rfl); (case hg => rfl); (case hr => first | (go_simp; done) | (go_simp; rfl)); intro gb135 hg w41 hbox hb; have n0_ := Aside0.mk (blk_below (g := gb133) (o := .cells #[.slice (some ad134) l0_0.length c0_0, .slice A0_1 l0_1.length c0_1, .slice A0_2 l0_2.length c0_2] 32 (0, 0)) q8_ hb); have n1_ := Aside0.mk (below_step q7_ hb); have n2_ := Aside0.mk (hbox); have n3_ := Aside0.mk ((by rw [hg]; exact (below_size q7_) : w.heap.size ≤ gb135)); have n4_ := Aside0.mk ((by rw [hg]; exact (below_size q7_) : w.heap.size ≤ gb135)); have n5_ := Aside0.mk ((by rw [hg]; exact Nat.ne_of_lt (blk_lt (g := gb133) (o := .cells #[.slice (some ad134) l0_0.length c0_0, .slice A0_1 l0_1.length c0_1, .slice A0_2 l0_2.length c0_2] 32 (0, 0)) q8_) : gb133 ≠ gb135)); have n6_ := Aside0.mk ((by rw [hg]; exact Nat.ne_of_gt (blk_lt (g := gb133) (o := .cells #[.slice (some ad134) l0_0.length c0_0, .slice A0_1 l0_1.length c0_1, .slice A0_2 l0_2.length c0_2] 32 (0, 0)) q8_) : gb135 ≠ gb133)); clear BK133; clear HB; have BK133 := n0_; have HB := n1_; have BK135 := n2_; have GW135 := n3_; have GE135 := n4_; have NB133_135 := n5_; have NB135_133 := n6_; clear n0_ n1_ n2_ n3_ n4_ n5_ n6_; clear hb hbox hg; have hnb42 := NB135_133.out; have hnc42 := NB133_135.out; have hcz43_0 : w41.cell? ⟨gb135, 0, none⟩ = some (.string (⟨#[]⟩ : ByteArray)) := (blk_cell BK135.out 0).trans rfl; have hcz43_1 : w41.cell? ⟨gb135, 1, none⟩ = some (.int .i64 0) := (blk_cell BK135.out 1).trans rfl; have hfz43_0 := blk_frozen BK135.out 0; have hfz43_1 := blk_frozen BK135.out 1) | ((with_reducible refine gate_callee (f := 35) rfl ?_); refine goesL_ (some 38) rfl rfl Tryd.func35 q28_ rfl #[.string ((rd_T44 l0_0 x31_2).f0), .string (⟨#[114, 46]⟩ : ByteArray)] rfl q6_ ?_; (with_reducible refine (strings_TrimPrefix.calls ((rd_T44 l0_0 x31_2).f0) (⟨#[114, 46]⟩ : ByteArray) t136 _ A14.out).mono ?_); rintro e w' ⟨rfl, ⟨nd, rfl⟩⟩; refine ⟨_, rfl, ?_⟩) | ((with_reducible refine gate_callee (f := 34) rfl ?_); refine goesL_ (some 39) rfl rfl Tryd.func34 q28_ rfl #[.string t136] rfl q6_ ?_; (with_reducible refine (bits_Name.calls k2 t136 true _ A15.out).mono ?_); rintro e w' ⟨rfl, ⟨nd, rfl⟩⟩; refine ⟨_, rfl, ?_⟩))
                have n0_ : Aside0 (((w41.setCell ⟨gb135, 0, none⟩ (.string ((rd_T44 l0_0 x31_2).f0))).setCell ⟨gb135, 1, none⟩ (.int .i64 ((rd_T44 l0_0 x31_2).f1))).heap[gb133]? = some (.cells #[.slice (some ad134) l0_0.length c0_0, .slice A0_1 l0_1.length c0_1, .slice A0_2 l0_2.length c0_2] 32 (0, 0))) := ⟨by (with_reducible repeat (first | refine blk_drewN ?_ _ | refine blk_drew ?_ | refine blk_alloc ?_ _)); refine blk_far ?_ NB133_135.out _; (with_reducible repeat (first | refine blk_drewN ?_ _ | refine blk_drew ?_ | refine blk_alloc ?_ _)); refine blk_far ?_ NB133_135.out _; (with_reducible repeat (first | refine blk_drewN ?_ _ | refine blk_drew ?_ | refine blk_alloc ?_ _)); exact BK133.out⟩
                have n1_ : Aside0 (((w41.setCell ⟨gb135, 0, none⟩ (.string ((rd_T44 l0_0 x31_2).f0))).setCell ⟨gb135, 1, none⟩ (.int .i64 ((rd_T44 l0_0 x31_2).f1))).heap[gb135]? = some (.cells #[.string ((rd_T44 l0_0 x31_2).f0), .int .i64 ((rd_T44 l0_0 x31_2).f1)] 44 (0, 0))) := ⟨by (with_reducible repeat (first | refine blk_drewN ?_ _ | refine blk_drew ?_ | refine blk_alloc ?_ _)); refine blk_put (cs := #[.string ((rd_T44 l0_0 x31_2).f0), .int .i64 0]) ?_ 1 _ rfl; (with_reducible repeat (first | refine blk_drewN ?_ _ | refine blk_drew ?_ | refine blk_alloc ?_ _)); refine blk_put (cs := #[.string (⟨#[]⟩ : ByteArray), .int .i64 0]) ?_ 0 _ rfl; (with_reducible repeat (first | refine blk_drewN ?_ _ | refine blk_drew ?_ | refine blk_alloc ?_ _)); exact BK135.out⟩
                have n2_ : Aside0 (Below w.heap.size w ((w41.setCell ⟨gb135, 0, none⟩ (.string ((rd_T44 l0_0 x31_2).f0))).setCell ⟨gb135, 1, none⟩ (.int .i64 ((rd_T44 l0_0 x31_2).f1)))) := ⟨by repeat (first | (with_reducible first | exact HB.out | apply below_alloc | apply pw_below_drewN | apply below_drew1 | refine below_set ?_ GE133.out | refine below_set ?_ GE135.out) | exact HB.out)⟩
                (try clear BK133)
                (try clear BK135)
                (try clear HB)
                generalize ((w41.setCell ⟨gb135, 0, none⟩ (.string ((rd_T44 l0_0 x31_2).f0))).setCell ⟨gb135, 1, none⟩ (.int .i64 ((rd_T44 l0_0 x31_2).f1))) = w44 at n0_ n1_ n2_ ⊢
                have BK133 := n0_
                have BK135 := n1_
                have HB := n2_
                clear n0_ n1_ n2_
                (try (rw [drewN_self w44]; generalize hq_ : World.drewN w44 _ = w44; have n0_ : Aside0 (w44.heap[gb133]? = some (.cells #[.slice (some ad134) l0_0.length c0_0, .slice A0_1 l0_1.length c0_1, .slice A0_2 l0_2.length c0_2] 32 (0, 0))) := ⟨by rw [← hq_]; exact q8_⟩; have n1_ : Aside0 (w44.heap[gb135]? = some (.cells #[.string ((rd_T44 l0_0 x31_2).f0), .int .i64 ((rd_T44 l0_0 x31_2).f1)] 44 (0, 0))) := ⟨by rw [← hq_]; exact q34_⟩; have n2_ : Aside0 (Below w.heap.size w w44) := ⟨by rw [← hq_]; exact q20_⟩; clear BK133 BK135 HB hq_; have BK133 := n0_; have BK135 := n1_; have HB := n2_; clear n0_ n1_ n2_))
                have n0_ := Aside0.mk (blk_drew BK133.out)
                have n1_ := Aside0.mk (blk_drew BK135.out)
                have n2_ := Aside0.mk (below_drew1 HB.out)
                clear BK133
                clear BK135
                clear HB
                have BK133 := n0_
                have BK135 := n1_
                have HB := n2_
                clear n0_ n1_ n2_
                have p138 : 0 ≤ ((ji30) : Int) := of_decide_eq_true q2_
                have q138 : (ji30) < (l0_0.length : Int) := of_decide_eq_true q2_
                obtain ⟨ad138, e138, hx138_0, hx138_1⟩ := at_T44 HR0_0.out (ji30) p138 q138
                have hw138_1 := hx138_1
                have hw138_0 := hx138_0
                obtain rfl : ad134 = ad138 := (by injection e138)
                replace hx138_0 := (HB.out.cell (World.block_lt_of_cell? w _ hx138_0)).trans hx138_0
                replace hx138_1 := (HB.out.cell (World.block_lt_of_cell? w _ hx138_1)).trans hx138_1
                replace p138 := eq_true p138
                replace q138 := eq_true q138
                refine start_ (n := 27) (S := fun w' => w'.cell? ⟨gb135, 0, none⟩ = some (.string ((rd_T44 l0_0 x31_2).f0)) ∧ w'.cell? ⟨gb135, 1, none⟩ = some (.int .i64 ((rd_T44 l0_0 x31_2).f1)) ∧ w'.cell? ⟨gb133, 0, none⟩ = some (.slice (some ad134) l0_0.length c0_0) ∧ w'.cell? ⟨gb133, 1, none⟩ = some (.slice A0_1 l0_1.length c0_1) ∧ w'.cell? ⟨gb133, 2, none⟩ = some (.slice A0_2 l0_2.length c0_2) ∧ w'.cell? (ad134.add (((ji30)).toNat * 2)) = some (.string ((rd_T44 l0_0 (ji30)).f0)) ∧ w'.cell? ⟨(ad134.add (((ji30)).toNat * 2)).block, (ad134.add (((ji30)).toNat * 2)).off + 1, none⟩ = some (.int .i64 ((rd_T44 l0_0 (ji30)).f1))) (ds := []) #[false, false, false, false, false, false, false, false, false, false, false, false, false, false, false, false, false, false, false, false, false, false, false, false, false, false, false] q28_ rfl rfl ⟨(blk_cell BK135.out 0).trans rfl, (blk_cell BK135.out 1).trans rfl, (blk_cell BK133.out 0).trans rfl, (blk_cell BK133.out 1).trans rfl, (blk_cell BK133.out 2).trans rfl, ((HB.out.cell (World.block_lt_of_cell? w _ hw138_0)).trans hw138_0), ((HB.out.cell (World.block_lt_of_cell? w _ hw138_1)).trans hw138_1)⟩ (fun hHeld => ?_); refine with_tabW blast_Check.tab7 blast_Check.bits7 (fun HT_ HW_ => ?_)
                generalize w44.drew = w45 at BK133 BK135 HB hx138_0 hx138_1 hHeld ⊢
                refine pz_ (i := 0) (N := some 40) (h := ?_)
                refine pz_ (i := 1) (N := some 41) (h := ?_)
                refine pz_ (i := 2) (N := some 42) (h := ?_)
                refine pz_ (i := 3) (N := some 43) (h := ?_)
                refine tz_ (i := 4) (N := some 44) (h := ?_)
                refine pz_ (i := 5) (N := some 45) (h := ?_)
                refine pz_ (i := 6) (N := some 46) (h := ?_)
                refine pz_ (i := 7) (N := some 47) (h := ?_)
                refine pz_ (i := 8) (N := some 48) (h := ?_)
                refine tz_ (i := 9) (N := some 49) (h := ?_)
                refine pz_ (i := 10) (N := some 50) (h := ?_)
                refine pz_ (i := 11) (N := some 51) (h := ?_)
                refine pz_ (i := 12) (N := some 52) (h := ?_)
                refine pz_ (i := 13) (N := some 53) (h := ?_)
                refine pz_ (i := 14) (N := some 54) (h := ?_)
                refine pz_ (i := 15) (N := some 55) (h := ?_)
                refine pz_ (i := 16) (N := some 56) (h := ?_)
                refine pz_ (i := 18) (N := some 58) (h := ?_)
                refine pz_ (i := 19) (N := some 59) (h := ?_)
                refine tz_ (i := 17) (N := some 57) (h := ?_)
                refine pz_ (i := 20) (N := some 60) (h := ?_)
                refine tz_ (i := 21) (N := some 61) (h := ?_)
                refine tz_ (i := 22) (N := some 62) (h := ?_)
                refine nz_ (i := 23) (N := some 63) (h := fun K hK => ?_)
                refine goes_ Tryd.func36 q28_ rfl #[.agg #[.string ((rd_T44 l0_0 (ji30)).f0), .int .i64 ((rd_T44 l0_0 (ji30)).f1)], .agg #[.string ((rd_T44 l0_0 x31_2).f0), .int .i64 ((rd_T44 l0_0 x31_2).f1)]] (by rfl) rfl rfl (by (try simp only [List.map_toArray, List.map_cons, List.map_nil]); first | done | (simp only [hji30]; rfl) | rfl | (simp only [List.length_drop, List.length_take]; rfl)) ?_
                with_reducible refine (blast_before.calls ((rd_T44 l0_0 (ji30)).f0) ((rd_T44 l0_0 (ji30)).f1) ((rd_T44 l0_0 x31_2).f0) ((rd_T44 l0_0 x31_2).f1) false _ A33.out).mono ?_
                rintro e w46 ⟨rfl, hb⟩
                refine ⟨_, rfl, ?_⟩
                have n0_ := Aside0.mk (blk_below (g := gb133) (o := .cells #[.slice (some ad134) l0_0.length c0_0, .slice A0_1 l0_1.length c0_1, .slice A0_2 l0_2.length c0_2] 32 (0, 0)) q8_ hb)
                have n1_ := Aside0.mk (blk_below (g := gb135) (o := .cells #[.string ((rd_T44 l0_0 x31_2).f0), .int .i64 ((rd_T44 l0_0 x31_2).f1)] 44 (0, 0)) q34_ hb)
                have n2_ := Aside0.mk (below_step q20_ hb)
                clear BK133
                clear BK135
                clear HB
                have BK133 := n0_
                have BK135 := n1_
                have HB := n2_
                clear n0_ n1_ n2_
                (try clear hb)
                (try clear hb2)
                (try clear hk)
                (try clear hi)
                refine hK.out _ _ ⟨(blk_cell BK135.out 0).trans rfl, (blk_cell BK135.out 1).trans rfl, (blk_cell BK133.out 0).trans rfl, (blk_cell BK133.out 1).trans rfl, (blk_cell BK133.out 2).trans rfl, ((HB.out.cell (World.block_lt_of_cell? w _ hw138_0)).trans hw138_0), ((HB.out.cell (World.block_lt_of_cell? w _ hw138_1)).trans hw138_1)⟩ (fun hHeld => ?_)
                clear hK K
                refine mz_ (some 63) (h := ?_)
                refine pz_ (i := 24) (N := some 64) (h := ?_)
                refine pz_ (i := 25) (N := some 65) (h := ?_)
                refine pz_ (i := 26) (N := some 66) (h := ?_)
                refine done_ (done_of HT_.out q28_) ?_
                try go_wp2
                go_ret
                exact ⟨by first | rfl | (simp [errW_none, errW_some] <;> rfl) | (simp only [← hji30]; first | rfl | (simp [errW_none, errW_some] <;> rfl)) | (simp [*, errW_none, errW_some] <;> rfl), by repeat (first | (with_reducible first | exact HB.out | apply below_alloc | apply pw_below_drewN | apply below_drew1 | refine below_set ?_ GE133.out | refine below_set ?_ GE135.out) | exact HB.out)⟩
              ·rw [if_neg c32] at H
               exact absurd H (by simp)
             ·rw [if_neg c31] at H
              exact absurd H (by simp)
            ·rw [if_neg c29] at H
             have c29b0 : decide (0 < x31_2) = false := decide_eq_false c29
             clear c29
             have H' := Aside0.mk H
             clear H
             have p134 : 0 ≤ (x31_2 : Int) := of_decide_eq_true q2_
             have q134 : x31_2 < (l0_0.length : Int) := of_decide_eq_true q2_
             obtain ⟨ad134, e134, hx134_0, hx134_1⟩ := at_T44 HR0_0.out x31_2 p134 q134
             cases e134
             replace hx134_0 := (HB.out.cell (World.block_lt_of_cell? w _ hx134_0)).trans hx134_0
             replace hx134_1 := (HB.out.cell (World.block_lt_of_cell? w _ hx134_1)).trans hx134_1
             replace p134 := eq_true p134
             replace q134 := eq_true q134
             try go_wp2_with (first | ((with_reducible refine gate_dst (N := 4) rfl ?_); (try (refine gate_guard (by rfl) ?_; dsimp only)); refine box_event ?hg (N := 4) ?hd (cs := #[.string (⟨#[]⟩ : ByteArray), .int .i64 0]) (t := 44) ?hr ?_; (case hd => rfl); (case hg => rfl); (case hr => first | (go_simp; done) | (go_simp; rfl)); intro gb135 hg w47 hbox hb; have n0_ := Aside0.mk (blk_below (g := gb133) (o := .cells #[.slice (some ad134) l0_0.length c0_0, .slice A0_1 l0_1.length c0_1, .slice A0_2 l0_2.length c0_2] 32 (0, 0)) q8_ hb); have n1_ := Aside0.mk (below_step q7_ hb); have n2_ := Aside0.mk (hbox); have n3_ := Aside0.mk ((by rw [hg]; exact (below_size q7_) : w.heap.size ≤ gb135)); have n4_ := Aside0.mk ((by rw [hg]; exact (below_size q7_) : w.heap.size ≤ gb135)); have n5_ := Aside0.mk ((by rw [hg]; exact Nat.ne_of_lt (blk_lt (g := gb133) (o := .cells #[.slice (some ad134) l0_0.length c0_0, .slice A0_1 l0_1.length c0_1, .slice A0_2 l0_2.length c0_2] 32 (0, 0)) q8_) : gb133 ≠ gb135)); have n6_ := Aside0.mk ((by rw [hg]; exact Nat.ne_of_gt (blk_lt (g := gb133) (o := .cells #[.slice (some ad134) l0_0.length c0_0, .slice A0_1 l0_1.length c0_1, .slice A0_2 l0_2.length c0_2] 32 (0, 0)) q8_) : gb135 ≠ gb133)); clear BK133; clear HB; have BK133 := n0_; have HB := n1_; have BK135 := n2_; have GW135 := n3_; have GE135 := n4_; have NB133_135 := n5_; have NB135_133 := n6_; clear n0_ n1_ n2_ n3_ n4_ n5_ n6_; clear hb hbox hg; have hnb48 := NB135_133.out; have hnc48 := NB133_135.out; have hcz49_0 : w47.cell? ⟨gb135, 0, none⟩ = some (.string (⟨#[]⟩ : ByteArray)) := (blk_cell BK135.out 0).trans rfl; have hcz49_1 : w47.cell? ⟨gb135, 1, none⟩ = some (.int .i64 0) := (blk_cell BK135.out 1).trans rfl; have hfz49_0 := blk_frozen BK135.out 0; have hfz49_1 := blk_frozen BK135.out 1) | ((with_reducible refine gate_callee (f := 35) rfl ?_); refine goesL_ (some 38) rfl rfl Tryd.func35 q28_ rfl #[.string ((rd_T44 l0_0 x31_2).f0), .string (⟨#[114, 46]⟩ : ByteArray)] rfl q6_ ?_; (with_reducible refine (strings_TrimPrefix.calls ((rd_T44 l0_0 x31_2).f0) (⟨#[114, 46]⟩ : ByteArray) t136 _ A14.out).mono ?_); rintro e w' ⟨rfl, ⟨nd, rfl⟩⟩; refine ⟨_, rfl, ?_⟩) | ((with_reducible refine gate_callee (f := 34) rfl ?_); refine goesL_ (some 39) rfl rfl Tryd.func34 q28_ rfl #[.string t136] rfl q6_ ?_; (with_reducible refine (bits_Name.calls k2 t136 true _ A15.out).mono ?_); rintro e w' ⟨rfl, ⟨nd, rfl⟩⟩; refine ⟨_, rfl, ?_⟩))
             have n0_ : Aside0 (((w47.setCell ⟨gb135, 0, none⟩ (.string ((rd_T44 l0_0 x31_2).f0))).setCell ⟨gb135, 1, none⟩ (.int .i64 ((rd_T44 l0_0 x31_2).f1))).heap[gb133]? = some (.cells #[.slice (some ad134) l0_0.length c0_0, .slice A0_1 l0_1.length c0_1, .slice A0_2 l0_2.length c0_2] 32 (0, 0))) := ⟨by (with_reducible repeat (first | refine blk_drewN ?_ _ | refine blk_drew ?_ | refine blk_alloc ?_ _)); refine blk_far ?_ NB133_135.out _; (with_reducible repeat (first | refine blk_drewN ?_ _ | refine blk_drew ?_ | refine blk_alloc ?_ _)); refine blk_far ?_ NB133_135.out _; (with_reducible repeat (first | refine blk_drewN ?_ _ | refine blk_drew ?_ | refine blk_alloc ?_ _)); exact BK133.out⟩
             have n1_ : Aside0 (((w47.setCell ⟨gb135, 0, none⟩ (.string ((rd_T44 l0_0 x31_2).f0))).setCell ⟨gb135, 1, none⟩ (.int .i64 ((rd_T44 l0_0 x31_2).f1))).heap[gb135]? = some (.cells #[.string ((rd_T44 l0_0 x31_2).f0), .int .i64 ((rd_T44 l0_0 x31_2).f1)] 44 (0, 0))) := ⟨by (with_reducible repeat (first | refine blk_drewN ?_ _ | refine blk_drew ?_ | refine blk_alloc ?_ _)); refine blk_put (cs := #[.string ((rd_T44 l0_0 x31_2).f0), .int .i64 0]) ?_ 1 _ rfl; (with_reducible repeat (first | refine blk_drewN ?_ _ | refine blk_drew ?_ | refine blk_alloc ?_ _)); refine blk_put (cs := #[.string (⟨#[]⟩ : ByteArray), .int .i64 0]) ?_ 0 _ rfl; (with_reducible repeat (first | refine blk_drewN ?_ _ | refine blk_drew ?_ | refine blk_alloc ?_ _)); exact BK135.out⟩
             have n2_ : Aside0 (Below w.heap.size w ((w47.setCell ⟨gb135, 0, none⟩ (.string ((rd_T44 l0_0 x31_2).f0))).setCell ⟨gb135, 1, none⟩ (.int .i64 ((rd_T44 l0_0 x31_2).f1)))) := ⟨by repeat (first | (with_reducible first | exact HB.out | apply below_alloc | apply pw_below_drewN | apply below_drew1 | refine below_set ?_ GE133.out | refine below_set ?_ GE135.out) | exact HB.out)⟩
             (try clear BK133)
             (try clear BK135)
             (try clear HB)
             generalize ((w47.setCell ⟨gb135, 0, none⟩ (.string ((rd_T44 l0_0 x31_2).f0))).setCell ⟨gb135, 1, none⟩ (.int .i64 ((rd_T44 l0_0 x31_2).f1))) = w50 at n0_ n1_ n2_ ⊢
             have BK133 := n0_
             have BK135 := n1_
             have HB := n2_
             clear n0_ n1_ n2_
             (try (rw [drewN_self w50]; generalize hq_ : World.drewN w50 _ = w50; have n0_ : Aside0 (w50.heap[gb133]? = some (.cells #[.slice (some ad134) l0_0.length c0_0, .slice A0_1 l0_1.length c0_1, .slice A0_2 l0_2.length c0_2] 32 (0, 0))) := ⟨by rw [← hq_]; exact q8_⟩; have n1_ : Aside0 (w50.heap[gb135]? = some (.cells #[.string ((rd_T44 l0_0 x31_2).f0), .int .i64 ((rd_T44 l0_0 x31_2).f1)] 44 (0, 0))) := ⟨by rw [← hq_]; exact q34_⟩; have n2_ : Aside0 (Below w.heap.size w w50) := ⟨by rw [← hq_]; exact q20_⟩; clear BK133 BK135 HB hq_; have BK133 := n0_; have BK135 := n1_; have HB := n2_; clear n0_ n1_ n2_))
             have n0_ := Aside0.mk (blk_drew BK133.out)
             have n1_ := Aside0.mk (blk_drew BK135.out)
             have n2_ := Aside0.mk (below_drew1 HB.out)
             clear BK133
             clear BK135
             clear HB
             have BK133 := n0_
             have BK135 := n1_
             have HB := n2_
             clear n0_ n1_ n2_
             refine start_ (n := 27) (S := fun w' => w'.cell? ⟨gb135, 0, none⟩ = some (.string ((rd_T44 l0_0 x31_2).f0)) ∧ w'.cell? ⟨gb135, 1, none⟩ = some (.int .i64 ((rd_T44 l0_0 x31_2).f1))) (ds := []) #[false, false, false, false, false, false, false, false, false, false, false, false, false, false, false, false, false, false, false, false, false, false, false, false, false, false, false] q28_ rfl rfl ⟨(blk_cell BK135.out 0).trans rfl, (blk_cell BK135.out 1).trans rfl⟩ (fun hHeld => ?_); refine with_tabW blast_Check.tab7 blast_Check.bits7 (fun HT_ HW_ => ?_)
             generalize w50.drew = w51 at BK133 BK135 HB hHeld ⊢
             refine pz_ (i := 0) (N := some 40) (h := ?_)
             refine pz_ (i := 1) (N := some 41) (h := ?_)
             refine pz_ (i := 2) (N := some 42) (h := ?_)
             refine pz_ (i := 3) (N := some 43) (h := ?_)
             refine tz_ (i := 4) (N := some 44) (h := ?_)
             refine pz_ (i := 5) (N := some 45) (h := ?_)
             refine pz_ (i := 6) (N := some 46) (h := ?_)
             refine pz_ (i := 7) (N := some 47) (h := ?_)
             refine pz_ (i := 8) (N := some 48) (h := ?_)
             refine tz_ (i := 9) (N := some 49) (h := ?_)
             refine pz_ (i := 10) (N := some 50) (h := ?_)
             refine pz_ (i := 11) (N := some 51) (h := ?_)
             refine pz_ (i := 12) (N := some 52) (h := ?_)
             refine pz_ (i := 13) (N := some 53) (h := ?_)
             refine pz_ (i := 14) (N := some 54) (h := ?_)
             refine pz_ (i := 15) (N := some 55) (h := ?_)
             refine oz_ (i := 16) (N := some 56) (h := ?_)
             refine oz_ (i := 17) (N := some 57) (h := ?_)
             refine oz_ (i := 18) (N := some 58) (h := ?_)
             refine oz_ (i := 19) (N := some 59) (h := ?_)
             refine oz_ (i := 20) (N := some 60) (h := ?_)
             refine oz_ (i := 21) (N := some 61) (h := ?_)
             refine oz_ (i := 22) (N := some 62) (h := ?_)
             refine oz_ (i := 23) (N := some 63) (h := ?_)
             refine oz_ (i := 24) (N := some 64) (h := ?_)
             refine pz_ (i := 25) (N := some 65) (h := ?_)
             refine pz_ (i := 26) (N := some 66) (h := ?_)
             refine done_ (done_of HT_.out q28_) ?_
             try go_wp2
             go_roundg k2
             case measure => have := HJ1.out; have := HK2.out; omega
             case rel => exact ⟨(wrap64 (x31_2 + 1)), q10_, H', ⟨by have := HJ1.out; have := HK2.out; omega⟩, ⟨by (with_reducible repeat (first | refine blk_drewN ?_ _ | refine blk_drew ?_ | refine blk_alloc ?_ _)); exact BK133.out⟩, ⟨by repeat (first | (with_reducible first | exact HB.out | apply below_alloc | apply pw_below_drewN | apply below_drew1 | refine below_set ?_ GE133.out | refine below_set ?_ GE135.out) | exact HB.out)⟩⟩
         ·replace c16 := Bool.eq_false_iff.mpr c16
          subst c16
          have H1 : (some 8) = some r := by rw [if_neg (show ¬ (false = true) by decide)] at H; exact H
          clear H
          have H := H1
          clear H1
          obtain rfl := Option.some.inj H
          have p134 : 0 ≤ (x31_2 : Int) := of_decide_eq_true q2_
          have q134 : x31_2 < (l0_0.length : Int) := of_decide_eq_true q2_
          obtain ⟨ad134, e134, hx134_0, hx134_1⟩ := at_T44 HR0_0.out x31_2 p134 q134
          cases e134
          replace hx134_0 := (HB.out.cell (World.block_lt_of_cell? w _ hx134_0)).trans hx134_0
          replace hx134_1 := (HB.out.cell (World.block_lt_of_cell? w _ hx134_1)).trans hx134_1
          replace p134 := eq_true p134
          replace q134 := eq_true q134
          try go_wp2_with (first | ((with_reducible refine gate_dst (N := 4) rfl ?_); (try (refine gate_guard (by rfl) ?_; dsimp only)); refine box_event ?hg (N := 4) ?hd (cs := #[.string (⟨#[]⟩ : ByteArray), .int .i64 0]) (t := 44) ?hr ?_; (case hd => rfl); (case hg => rfl); (case hr => first | (go_simp; done) | (go_simp; rfl)); intro gb135 hg w52 hbox hb; have n0_ := Aside0.mk (blk_below (g := gb133) (o := .cells #[.slice (some ad134) l0_0.length c0_0, .slice A0_1 l0_1.length c0_1, .slice A0_2 l0_2.length c0_2] 32 (0, 0)) q8_ hb); have n1_ := Aside0.mk (below_step q7_ hb); have n2_ := Aside0.mk (hbox); have n3_ := Aside0.mk ((by rw [hg]; exact (below_size q7_) : w.heap.size ≤ gb135)); have n4_ := Aside0.mk ((by rw [hg]; exact (below_size q7_) : w.heap.size ≤ gb135)); have n5_ := Aside0.mk ((by rw [hg]; exact Nat.ne_of_lt (blk_lt (g := gb133) (o := .cells #[.slice (some ad134) l0_0.length c0_0, .slice A0_1 l0_1.length c0_1, .slice A0_2 l0_2.length c0_2] 32 (0, 0)) q8_) : gb133 ≠ gb135)); have n6_ := Aside0.mk ((by rw [hg]; exact Nat.ne_of_gt (blk_lt (g := gb133) (o := .cells #[.slice (some ad134) l0_0.length c0_0, .slice A0_1 l0_1.length c0_1, .slice A0_2 l0_2.length c0_2] 32 (0, 0)) q8_) : gb135 ≠ gb133)); clear BK133; clear HB; have BK133 := n0_; have HB := n1_; have BK135 := n2_; have GW135 := n3_; have GE135 := n4_; have NB133_135 := n5_; have NB135_133 := n6_; clear n0_ n1_ n2_ n3_ n4_ n5_ n6_; clear hb hbox hg; have hnb53 := NB135_133.out; have hnc53 := NB133_135.out; have hcz54_0 : w52.cell? ⟨gb135, 0, none⟩ = some (.string (⟨#[]⟩ : ByteArray)) := (blk_cell BK135.out 0).trans rfl; have hcz54_1 : w52.cell? ⟨gb135, 1, none⟩ = some (.int .i64 0) := (blk_cell BK135.out 1).trans rfl; have hfz54_0 := blk_frozen BK135.out 0; have hfz54_1 := blk_frozen BK135.out 1) | ((with_reducible refine gate_callee (f := 35) rfl ?_); refine goesL_ (some 38) rfl rfl Tryd.func35 q28_ rfl #[.string ((rd_T44 l0_0 x31_2).f0), .string (⟨#[114, 46]⟩ : ByteArray)] rfl q6_ ?_; (with_reducible refine (strings_TrimPrefix.calls ((rd_T44 l0_0 x31_2).f0) (⟨#[114, 46]⟩ : ByteArray) t136 _ A14.out).mono ?_); rintro e w' ⟨rfl, ⟨nd, rfl⟩⟩; refine ⟨_, rfl, ?_⟩) | ((with_reducible refine gate_callee (f := 34) rfl ?_); refine goesL_ (some 39) rfl rfl Tryd.func34 q28_ rfl #[.string t136] rfl q6_ ?_; (with_reducible refine (bits_Name.calls k2 t136 false _ A15.out).mono ?_); rintro e w' ⟨rfl, ⟨nd, rfl⟩⟩; refine ⟨_, rfl, ?_⟩))
          have n0_ : Aside0 (((w52.setCell ⟨gb135, 0, none⟩ (.string ((rd_T44 l0_0 x31_2).f0))).setCell ⟨gb135, 1, none⟩ (.int .i64 ((rd_T44 l0_0 x31_2).f1))).heap[gb133]? = some (.cells #[.slice (some ad134) l0_0.length c0_0, .slice A0_1 l0_1.length c0_1, .slice A0_2 l0_2.length c0_2] 32 (0, 0))) := ⟨by (with_reducible repeat (first | refine blk_drewN ?_ _ | refine blk_drew ?_ | refine blk_alloc ?_ _)); refine blk_far ?_ NB133_135.out _; (with_reducible repeat (first | refine blk_drewN ?_ _ | refine blk_drew ?_ | refine blk_alloc ?_ _)); refine blk_far ?_ NB133_135.out _; (with_reducible repeat (first | refine blk_drewN ?_ _ | refine blk_drew ?_ | refine blk_alloc ?_ _)); exact BK133.out⟩
          have n1_ : Aside0 (((w52.setCell ⟨gb135, 0, none⟩ (.string ((rd_T44 l0_0 x31_2).f0))).setCell ⟨gb135, 1, none⟩ (.int .i64 ((rd_T44 l0_0 x31_2).f1))).heap[gb135]? = some (.cells #[.string ((rd_T44 l0_0 x31_2).f0), .int .i64 ((rd_T44 l0_0 x31_2).f1)] 44 (0, 0))) := ⟨by (with_reducible repeat (first | refine blk_drewN ?_ _ | refine blk_drew ?_ | refine blk_alloc ?_ _)); refine blk_put (cs := #[.string ((rd_T44 l0_0 x31_2).f0), .int .i64 0]) ?_ 1 _ rfl; (with_reducible repeat (first | refine blk_drewN ?_ _ | refine blk_drew ?_ | refine blk_alloc ?_ _)); refine blk_put (cs := #[.string (⟨#[]⟩ : ByteArray), .int .i64 0]) ?_ 0 _ rfl; (with_reducible repeat (first | refine blk_drewN ?_ _ | refine blk_drew ?_ | refine blk_alloc ?_ _)); exact BK135.out⟩
          have n2_ : Aside0 (Below w.heap.size w ((w52.setCell ⟨gb135, 0, none⟩ (.string ((rd_T44 l0_0 x31_2).f0))).setCell ⟨gb135, 1, none⟩ (.int .i64 ((rd_T44 l0_0 x31_2).f1)))) := ⟨by repeat (first | (with_reducible first | exact HB.out | apply below_alloc | apply pw_below_drewN | apply below_drew1 | refine below_set ?_ GE133.out | refine below_set ?_ GE135.out) | exact HB.out)⟩
          (try clear BK133)
          (try clear BK135)
          (try clear HB)
          generalize ((w52.setCell ⟨gb135, 0, none⟩ (.string ((rd_T44 l0_0 x31_2).f0))).setCell ⟨gb135, 1, none⟩ (.int .i64 ((rd_T44 l0_0 x31_2).f1))) = w55 at n0_ n1_ n2_ ⊢
          have BK133 := n0_
          have BK135 := n1_
          have HB := n2_
          clear n0_ n1_ n2_
          (try (rw [drewN_self w55]; generalize hq_ : World.drewN w55 _ = w55; have n0_ : Aside0 (w55.heap[gb133]? = some (.cells #[.slice (some ad134) l0_0.length c0_0, .slice A0_1 l0_1.length c0_1, .slice A0_2 l0_2.length c0_2] 32 (0, 0))) := ⟨by rw [← hq_]; exact q8_⟩; have n1_ : Aside0 (w55.heap[gb135]? = some (.cells #[.string ((rd_T44 l0_0 x31_2).f0), .int .i64 ((rd_T44 l0_0 x31_2).f1)] 44 (0, 0))) := ⟨by rw [← hq_]; exact q34_⟩; have n2_ : Aside0 (Below w.heap.size w w55) := ⟨by rw [← hq_]; exact q20_⟩; clear BK133 BK135 HB hq_; have BK133 := n0_; have BK135 := n1_; have HB := n2_; clear n0_ n1_ n2_))
          have n0_ := Aside0.mk (blk_drew BK133.out)
          have n1_ := Aside0.mk (blk_drew BK135.out)
          have n2_ := Aside0.mk (below_drew1 HB.out)
          clear BK133
          clear BK135
          clear HB
          have BK133 := n0_
          have BK135 := n1_
          have HB := n2_
          clear n0_ n1_ n2_
          refine start_ (n := 27) (S := fun w' => True) (ds := []) #[false, false, false, false, false, false, false, false, false, false, false, false, false, false, false, false, false, false, false, false, false, false, false, false, false, false, false] q28_ rfl rfl trivial (fun hHeld => ?_); refine with_tabW blast_Check.tab7 blast_Check.bits7 (fun HT_ HW_ => ?_)
          generalize w55.drew = w56 at BK133 BK135 HB hHeld ⊢
          refine pz_ (i := 0) (N := some 40) (h := ?_)
          refine pz_ (i := 1) (N := some 41) (h := ?_)
          refine pz_ (i := 2) (N := some 42) (h := ?_)
          refine oz_ (i := 3) (N := some 43) (h := ?_)
          refine oz_ (i := 4) (N := some 44) (h := ?_)
          refine oz_ (i := 5) (N := some 45) (h := ?_)
          refine pz_ (i := 6) (N := some 46) (h := ?_)
          refine pz_ (i := 7) (N := some 47) (h := ?_)
          refine oz_ (i := 8) (N := some 48) (h := ?_)
          refine oz_ (i := 9) (N := some 49) (h := ?_)
          refine oz_ (i := 10) (N := some 50) (h := ?_)
          refine pz_ (i := 11) (N := some 51) (h := ?_)
          refine pz_ (i := 12) (N := some 52) (h := ?_)
          refine oz_ (i := 13) (N := some 53) (h := ?_)
          refine oz_ (i := 14) (N := some 54) (h := ?_)
          refine oz_ (i := 15) (N := some 55) (h := ?_)
          refine oz_ (i := 16) (N := some 56) (h := ?_)
          refine oz_ (i := 17) (N := some 57) (h := ?_)
          refine oz_ (i := 18) (N := some 58) (h := ?_)
          refine oz_ (i := 19) (N := some 59) (h := ?_)
          refine oz_ (i := 20) (N := some 60) (h := ?_)
          refine oz_ (i := 21) (N := some 61) (h := ?_)
          refine oz_ (i := 22) (N := some 62) (h := ?_)
          refine oz_ (i := 23) (N := some 63) (h := ?_)
          refine oz_ (i := 24) (N := some 64) (h := ?_)
          refine oz_ (i := 25) (N := some 65) (h := ?_)
          refine pz_ (i := 26) (N := some 66) (h := ?_)
          refine done_ (done_of HT_.out q28_) ?_
          try go_wp2
          go_ret
          exact ⟨by first | rfl | (simp [errW_none, errW_some] <;> rfl) | (simp [*, errW_none, errW_some] <;> rfl), by repeat (first | (with_reducible first | exact HB.out | apply below_alloc | apply pw_below_drewN | apply below_drew1 | refine below_set ?_ GE133.out | refine below_set ?_ GE135.out) | exact HB.out)⟩
        ·rw [if_neg c13] at H
         exact absurd H (by simp)
       ·rw [if_neg c12] at H
        exact absurd H (by simp)
      ·rw [if_neg c11] at H
       have c11b0 : decide (x31_2 < (l0_0.length : Int)) = false := decide_eq_false c11
       clear c11
       have H' := Aside0.mk H
       clear H
       have hcz57_0 : wr.cell? ⟨gb133, 0, none⟩ = some (.slice A0_0 l0_0.length c0_0) := (blk_cell BK133.out 0).trans rfl
       have hcz57_1 : wr.cell? ⟨gb133, 1, none⟩ = some (.slice A0_1 l0_1.length c0_1) := (blk_cell BK133.out 1).trans rfl
       have hcz57_2 : wr.cell? ⟨gb133, 2, none⟩ = some (.slice A0_2 l0_2.length c0_2) := (blk_cell BK133.out 2).trans rfl
       have hfz57_0 := blk_frozen BK133.out 0
       have hfz57_1 := blk_frozen BK133.out 1
       have hfz57_2 := blk_frozen BK133.out 2
       go_wp2
       go_loopg [75] k2 (fun kq v75 w' => ∃ (x75_3 : Int), v75 = .int .i64 x75_3 ∧ Aside0 (blast_Check.l1 kq (wrap64 (1 + (l0_0.length : Int))) l0_1 (l0_1.length : Int) x75_3 l0_0 l0_1 l0_2 = some r) ∧ Aside0 (kq ≤ k2) ∧ Aside0 (w'.heap[gb133]? = some (.cells #[(.slice A0_0 l0_0.length c0_0), (.slice A0_1 l0_1.length c0_1), (.slice A0_2 l0_2.length c0_2)] 32 (0, 0))) ∧ Aside0 (Below w.heap.size w w'))
       case atStart => exact ⟨(0), q10_, H', ⟨Nat.le_refl _⟩, ⟨by (with_reducible repeat (first | refine blk_drewN ?_ _ | refine blk_drew ?_ | refine blk_alloc ?_ _)); exact BK133.out⟩, ⟨by repeat (first | (with_reducible first | exact HB.out | apply below_alloc | apply pw_below_drewN | apply below_drew1 | refine below_set ?_ GE133.out) | exact HB.out)⟩⟩
       case round =>
        clear H'
        try clear c1
        try clear p1
        try clear q1
        try clear hx1
        try clear c2
        try clear p2
        try clear c3
        try clear c4
        try clear c5
        try clear p6
        try clear c11
        try clear c11b0
        try clear c12
        try clear c13
        try clear p13
        try clear q13
        try clear hx13
        try clear c16
        try clear c29
        try clear c29b0
        try clear c31
        try clear c32
        try clear c34
        try clear c35
        try clear c36
        try clear c48
        try clear c53
        try clear hcz49_0
        try clear hcz49_1
        try clear hcz54_0
        try clear hcz54_1
        try clear hcz57_0
        try clear hcz57_1
        try clear hcz57_2
        try clear hfz49_0
        try clear hfz49_1
        try clear hfz54_0
        try clear hfz54_1
        try clear hfz57_0
        try clear hfz57_1
        try clear hfz57_2
        try clear hx134_0
        try clear hx134_1
        try clear p134
        try clear q134
        obtain ⟨x75_3, rfl, HA, HK3, BK133, HB⟩ := hrel
        cases gk with
        | zero => exact absurd HA.out (by simp [blast_Check.l1])
        | succ k3 =>
         have H := HA.out
         clear HA
         simp only [blast_Check.l1] at H
         by_cases c58 : x75_3 < (l0_1.length : Int)
         ·rw [if_pos c58] at H
          have c58b0 : decide (x75_3 < (l0_1.length : Int)) = true := decide_eq_true c58
          clear c58
          by_cases c59 : 0 ≤ x75_3
          ·rw [if_pos c59] at H
           have c59b0 : decide (0 ≤ x75_3) = true := decide_eq_true c59
           clear c59
           by_cases c60 : x75_3 < (l0_1.length : Int)
           ·rw [if_pos c60] at H
            have c60b0 : decide (x75_3 < (l0_1.length : Int)) = true := decide_eq_true c60
            clear c60
            obtain ⟨ji61, hji61⟩ : ∃ j_ : Int, (mn ((rd_T49 l0_1 x75_3).f0) ((rd_T49 l0_1 x75_3).f1)) = j_ := ⟨_, rfl⟩
            replace H : (if (ji61) < 0 then (some 8) else (if (mx ((rd_T49 l0_1 x75_3).f0) ((rd_T49 l0_1 x75_3).f1)) ≥ (wrap64 (2 * (wrap64 ((wrap64 (1 + (l0_0.length : Int))) + x75_3)))) then (some 8) else (blast_Check.l1 k3 (wrap64 (1 + (l0_0.length : Int))) l0_1 (l0_1.length : Int) (wrap64 (x75_3 + 1)) l0_0 l0_1 l0_2))) = some r := by first | (rw [hji61] at H; exact H) | (simp only [hji61] at H ⊢; exact H)
            have hji61_ : (if ((rd_T49 l0_1 x75_3).f1) < ((rd_T49 l0_1 x75_3).f0) then ((rd_T49 l0_1 x75_3).f1) else ((rd_T49 l0_1 x75_3).f0)) = ji61 := hji61
            by_cases c62 : (ji61) < 0
            ·rw [if_pos c62] at H
             have c62b0 : decide ((ji61) < 0) = true := decide_eq_true c62
             clear c62
             obtain rfl := Option.some.inj H
             have p140 : 0 ≤ (x75_3 : Int) := of_decide_eq_true q2_
             have q140 : x75_3 < (l0_1.length : Int) := of_decide_eq_true q2_
             obtain ⟨ad140, e140, hx140_0, hx140_1⟩ := at_T49 HR0_1.out x75_3 p140 q140
             cases e140
             replace hx140_0 := (HB.out.cell (World.block_lt_of_cell? w _ hx140_0)).trans hx140_0
             replace hx140_1 := (HB.out.cell (World.block_lt_of_cell? w _ hx140_1)).trans hx140_1
             replace p140 := eq_true p140
             replace q140 := eq_true q140
             go_wp2_with (first | ((with_reducible refine gate_dst (N := 8) rfl ?_); (try (refine gate_guard (by rfl) ?_; dsimp only)); refine box_event ?hg (N := 8) ?hd (cs := #[.int .i64 0, .int .i64 0]) (t := 49) ?hr ?_; (case hd => rfl); (case hg => rfl); (case hr => first | (go_simp; done) | (go_simp; rfl)); intro gb141 hg w63 hbox hb; have n0_ := Aside0.mk (blk_below (g := gb133) (o := .cells #[.slice A0_0 l0_0.length c0_0, .slice (some ad140) l0_1.length c0_1, .slice A0_2 l0_2.length c0_2] 32 (0, 0)) q8_ hb); have n1_ := Aside0.mk (below_step q7_ hb); have n2_ := Aside0.mk (hbox); have n3_ := Aside0.mk ((by rw [hg]; exact (below_size q7_) : w.heap.size ≤ gb141)); have n4_ := Aside0.mk ((by rw [hg]; exact (below_size q7_) : w.heap.size ≤ gb141)); have n5_ := Aside0.mk ((by rw [hg]; exact Nat.ne_of_lt (blk_lt (g := gb133) (o := .cells #[.slice A0_0 l0_0.length c0_0, .slice (some ad140) l0_1.length c0_1, .slice A0_2 l0_2.length c0_2] 32 (0, 0)) q8_) : gb133 ≠ gb141)); have n6_ := Aside0.mk ((by rw [hg]; exact Nat.ne_of_gt (blk_lt (g := gb133) (o := .cells #[.slice A0_0 l0_0.length c0_0, .slice (some ad140) l0_1.length c0_1, .slice A0_2 l0_2.length c0_2] 32 (0, 0)) q8_) : gb141 ≠ gb133)); clear BK133; clear HB; have BK133 := n0_; have HB := n1_; have BK141 := n2_; have GW141 := n3_; have GE141 := n4_; have NB133_141 := n5_; have NB141_133 := n6_; clear n0_ n1_ n2_ n3_ n4_ n5_ n6_; clear hb hbox hg; have hnb64 := NB141_133.out; have hnc64 := NB133_141.out; have hcz65_0 : w63.cell? ⟨gb141, 0, none⟩ = some (.int .i64 0) := (blk_cell BK141.out 0).trans rfl; have hcz65_1 : w63.cell? ⟨gb141, 1, none⟩ = some (.int .i64 0) := (blk_cell BK141.out 1).trans rfl; have hfz65_0 := blk_frozen BK141.out 0; have hfz65_1 := blk_frozen BK141.out 1))
             go_ret
             exact ⟨by first | rfl | (simp [errW_none, errW_some] <;> rfl) | (simp only [← hji61]; first | rfl | (simp [errW_none, errW_some] <;> rfl)) | (simp [*, errW_none, errW_some] <;> rfl), by repeat (first | (with_reducible first | exact HB.out | apply below_alloc | apply pw_below_drewN | apply below_drew1 | refine below_set ?_ GE133.out | refine below_set ?_ GE141.out) | exact HB.out)⟩
            ·rw [if_neg c62] at H
             have c62b0 : decide ((ji61) < 0) = false := decide_eq_false c62
             clear c62
             obtain ⟨ji66, hji66⟩ : ∃ j_ : Int, (mx ((rd_T49 l0_1 x75_3).f0) ((rd_T49 l0_1 x75_3).f1)) = j_ := ⟨_, rfl⟩
             replace H : (if (ji66) ≥ (wrap64 (2 * (wrap64 ((wrap64 (1 + (l0_0.length : Int))) + x75_3)))) then (some 8) else (blast_Check.l1 k3 (wrap64 (1 + (l0_0.length : Int))) l0_1 (l0_1.length : Int) (wrap64 (x75_3 + 1)) l0_0 l0_1 l0_2)) = some r := by first | (rw [hji66] at H; exact H) | (simp only [hji66] at H ⊢; exact H)
             have hji66_ : (if ((rd_T49 l0_1 x75_3).f0) < ((rd_T49 l0_1 x75_3).f1) then ((rd_T49 l0_1 x75_3).f1) else ((rd_T49 l0_1 x75_3).f0)) = ji66 := hji66
             by_cases c67 : (ji66) ≥ (wrap64 (2 * (wrap64 ((wrap64 (1 + (l0_0.length : Int))) + x75_3))))
             ·rw [if_pos c67] at H
              have c67b0 : decide ((wrap64 (2 * (wrap64 ((wrap64 (1 + (l0_0.length : Int))) + x75_3)))) ≤ (ji66)) = true := decide_eq_true c67
              clear c67
              obtain rfl := Option.some.inj H
              have p140 : 0 ≤ (x75_3 : Int) := of_decide_eq_true q2_
              have q140 : x75_3 < (l0_1.length : Int) := of_decide_eq_true q2_
              obtain ⟨ad140, e140, hx140_0, hx140_1⟩ := at_T49 HR0_1.out x75_3 p140 q140
              cases e140
              replace hx140_0 := (HB.out.cell (World.block_lt_of_cell? w _ hx140_0)).trans hx140_0
              replace hx140_1 := (HB.out.cell (World.block_lt_of_cell? w _ hx140_1)).trans hx140_1
              replace p140 := eq_true p140
              replace q140 := eq_true q140
              go_wp2_with (first | ((with_reducible refine gate_dst (N := 8) rfl ?_); (try (refine gate_guard (by rfl) ?_; dsimp only)); refine box_event ?hg (N := 8) ?hd (cs := #[.int .i64 0, .int .i64 0]) (t := 49) ?hr ?_; (case hd => rfl); (case hg => rfl); (case hr => first | (go_simp; done) | (go_simp; rfl)); intro gb141 hg w68 hbox hb; have n0_ := Aside0.mk (blk_below (g := gb133) (o := .cells #[.slice A0_0 l0_0.length c0_0, .slice (some ad140) l0_1.length c0_1, .slice A0_2 l0_2.length c0_2] 32 (0, 0)) q8_ hb); have n1_ := Aside0.mk (below_step q7_ hb); have n2_ := Aside0.mk (hbox); have n3_ := Aside0.mk ((by rw [hg]; exact (below_size q7_) : w.heap.size ≤ gb141)); have n4_ := Aside0.mk ((by rw [hg]; exact (below_size q7_) : w.heap.size ≤ gb141)); have n5_ := Aside0.mk ((by rw [hg]; exact Nat.ne_of_lt (blk_lt (g := gb133) (o := .cells #[.slice A0_0 l0_0.length c0_0, .slice (some ad140) l0_1.length c0_1, .slice A0_2 l0_2.length c0_2] 32 (0, 0)) q8_) : gb133 ≠ gb141)); have n6_ := Aside0.mk ((by rw [hg]; exact Nat.ne_of_gt (blk_lt (g := gb133) (o := .cells #[.slice A0_0 l0_0.length c0_0, .slice (some ad140) l0_1.length c0_1, .slice A0_2 l0_2.length c0_2] 32 (0, 0)) q8_) : gb141 ≠ gb133)); clear BK133; clear HB; have BK133 := n0_; have HB := n1_; have BK141 := n2_; have GW141 := n3_; have GE141 := n4_; have NB133_141 := n5_; have NB141_133 := n6_; clear n0_ n1_ n2_ n3_ n4_ n5_ n6_; clear hb hbox hg; have hnb69 := NB141_133.out; have hnc69 := NB133_141.out; have hcz70_0 : w68.cell? ⟨gb141, 0, none⟩ = some (.int .i64 0) := (blk_cell BK141.out 0).trans rfl; have hcz70_1 : w68.cell? ⟨gb141, 1, none⟩ = some (.int .i64 0) := (blk_cell BK141.out 1).trans rfl; have hfz70_0 := blk_frozen BK141.out 0; have hfz70_1 := blk_frozen BK141.out 1))
              go_ret
              exact ⟨by first | rfl | (simp [errW_none, errW_some] <;> rfl) | (simp only [← hji61, ← hji66]; first | rfl | (simp [errW_none, errW_some] <;> rfl)) | (simp [*, errW_none, errW_some] <;> rfl), by repeat (first | (with_reducible first | exact HB.out | apply below_alloc | apply pw_below_drewN | apply below_drew1 | refine below_set ?_ GE133.out | refine below_set ?_ GE141.out) | exact HB.out)⟩
             ·rw [if_neg c67] at H
              have c67b0 : decide ((wrap64 (2 * (wrap64 ((wrap64 (1 + (l0_0.length : Int))) + x75_3)))) ≤ (ji66)) = false := decide_eq_false c67
              clear c67
              have H' := Aside0.mk H
              clear H
              have p140 : 0 ≤ (x75_3 : Int) := of_decide_eq_true q2_
              have q140 : x75_3 < (l0_1.length : Int) := of_decide_eq_true q2_
              obtain ⟨ad140, e140, hx140_0, hx140_1⟩ := at_T49 HR0_1.out x75_3 p140 q140
              cases e140
              replace hx140_0 := (HB.out.cell (World.block_lt_of_cell? w _ hx140_0)).trans hx140_0
              replace hx140_1 := (HB.out.cell (World.block_lt_of_cell? w _ hx140_1)).trans hx140_1
              replace p140 := eq_true p140
              replace q140 := eq_true q140
              go_wp2_with (first | ((with_reducible refine gate_dst (N := 8) rfl ?_); (try (refine gate_guard (by rfl) ?_; dsimp only)); refine box_event ?hg (N := 8) ?hd (cs := #[.int .i64 0, .int .i64 0]) (t := 49) ?hr ?_; (case hd => rfl); (case hg => rfl); (case hr => first | (go_simp; done) | (go_simp; rfl)); intro gb141 hg w71 hbox hb; have n0_ := Aside0.mk (blk_below (g := gb133) (o := .cells #[.slice A0_0 l0_0.length c0_0, .slice (some ad140) l0_1.length c0_1, .slice A0_2 l0_2.length c0_2] 32 (0, 0)) q8_ hb); have n1_ := Aside0.mk (below_step q7_ hb); have n2_ := Aside0.mk (hbox); have n3_ := Aside0.mk ((by rw [hg]; exact (below_size q7_) : w.heap.size ≤ gb141)); have n4_ := Aside0.mk ((by rw [hg]; exact (below_size q7_) : w.heap.size ≤ gb141)); have n5_ := Aside0.mk ((by rw [hg]; exact Nat.ne_of_lt (blk_lt (g := gb133) (o := .cells #[.slice A0_0 l0_0.length c0_0, .slice (some ad140) l0_1.length c0_1, .slice A0_2 l0_2.length c0_2] 32 (0, 0)) q8_) : gb133 ≠ gb141)); have n6_ := Aside0.mk ((by rw [hg]; exact Nat.ne_of_gt (blk_lt (g := gb133) (o := .cells #[.slice A0_0 l0_0.length c0_0, .slice (some ad140) l0_1.length c0_1, .slice A0_2 l0_2.length c0_2] 32 (0, 0)) q8_) : gb141 ≠ gb133)); clear BK133; clear HB; have BK133 := n0_; have HB := n1_; have BK141 := n2_; have GW141 := n3_; have GE141 := n4_; have NB133_141 := n5_; have NB141_133 := n6_; clear n0_ n1_ n2_ n3_ n4_ n5_ n6_; clear hb hbox hg; have hnb72 := NB141_133.out; have hnc72 := NB133_141.out; have hcz73_0 : w71.cell? ⟨gb141, 0, none⟩ = some (.int .i64 0) := (blk_cell BK141.out 0).trans rfl; have hcz73_1 : w71.cell? ⟨gb141, 1, none⟩ = some (.int .i64 0) := (blk_cell BK141.out 1).trans rfl; have hfz73_0 := blk_frozen BK141.out 0; have hfz73_1 := blk_frozen BK141.out 1))
              go_roundg k3
              case measure => have := HJ1.out; have := HK2.out; have := HK3.out; omega
              case rel => exact ⟨(wrap64 (x75_3 + 1)), q10_, H', ⟨by have := HJ1.out; have := HK2.out; have := HK3.out; omega⟩, ⟨by (with_reducible repeat (first | refine blk_drewN ?_ _ | refine blk_drew ?_ | refine blk_alloc ?_ _)); refine blk_far ?_ NB133_141.out _; (with_reducible repeat (first | refine blk_drewN ?_ _ | refine blk_drew ?_ | refine blk_alloc ?_ _)); refine blk_far ?_ NB133_141.out _; (with_reducible repeat (first | refine blk_drewN ?_ _ | refine blk_drew ?_ | refine blk_alloc ?_ _)); exact BK133.out⟩, ⟨by repeat (first | (with_reducible first | exact HB.out | apply below_alloc | apply pw_below_drewN | apply below_drew1 | refine below_set ?_ GE133.out | refine below_set ?_ GE141.out) | exact HB.out)⟩⟩
           ·rw [if_neg c60] at H
            exact absurd H (by simp)
          ·rw [if_neg c59] at H
           exact absurd H (by simp)
         ·rw [if_neg c58] at H
          have c58b0 : decide (x75_3 < (l0_1.length : Int)) = false := decide_eq_false c58
          clear c58
          have H' := Aside0.mk H
          clear H
          have hcz74_0 : wr.cell? ⟨gb133, 0, none⟩ = some (.slice A0_0 l0_0.length c0_0) := (blk_cell BK133.out 0).trans rfl
          have hcz74_1 : wr.cell? ⟨gb133, 1, none⟩ = some (.slice A0_1 l0_1.length c0_1) := (blk_cell BK133.out 1).trans rfl
          have hcz74_2 : wr.cell? ⟨gb133, 2, none⟩ = some (.slice A0_2 l0_2.length c0_2) := (blk_cell BK133.out 2).trans rfl
          have hfz74_0 := blk_frozen BK133.out 0
          have hfz74_1 := blk_frozen BK133.out 1
          have hfz74_2 := blk_frozen BK133.out 2
          go_wp2
          go_loopg [103] k3 (fun kq v103 w' => ∃ (x103_4 : Int), v103 = .int .i64 x103_4 ∧ Aside0 (blast_Check.l2 kq (wrap64 (1 + (l0_0.length : Int))) l0_2 (l0_2.length : Int) x103_4 l0_0 l0_1 l0_2 = some r) ∧ Aside0 (kq ≤ k3) ∧ Aside0 (w'.heap[gb133]? = some (.cells #[(.slice A0_0 l0_0.length c0_0), (.slice A0_1 l0_1.length c0_1), (.slice A0_2 l0_2.length c0_2)] 32 (0, 0))) ∧ Aside0 (Below w.heap.size w w'))
          case atStart => exact ⟨(0), q10_, H', ⟨Nat.le_refl _⟩, ⟨by (with_reducible repeat (first | refine blk_drewN ?_ _ | refine blk_drew ?_ | refine blk_alloc ?_ _)); exact BK133.out⟩, ⟨by repeat (first | (with_reducible first | exact HB.out | apply below_alloc | apply pw_below_drewN | apply below_drew1 | refine below_set ?_ GE133.out) | exact HB.out)⟩⟩
          case round =>
           clear H'
           try clear c1
           try clear p1
           try clear q1
           try clear hx1
           try clear c2
           try clear p2
           try clear c3
           try clear c4
           try clear c5
           try clear c6
           try clear p6
           try clear c7
           try clear c11
           try clear c11b0
           try clear c12
           try clear c13
           try clear p13
           try clear q13
           try clear hx13
           try clear p14
           try clear q14
           try clear hx14
           try clear c16
           try clear c29
           try clear c29b0
           try clear c31
           try clear c32
           try clear c34
           try clear c35
           try clear c36
           try clear c48
           try clear c53
           try clear c58
           try clear c58b0
           try clear c59
           try clear c59b0
           try clear c60
           try clear c60b0
           try clear c62
           try clear c62b0
           try clear c64
           try clear p64
           try clear c67
           try clear c67b0
           try clear c69
           try clear c72
           try clear hcz49_0
           try clear hcz49_1
           try clear hcz54_0
           try clear hcz54_1
           try clear hcz57_0
           try clear hcz57_1
           try clear hcz57_2
           try clear hcz65_0
           try clear hcz65_1
           try clear hcz70_0
           try clear hcz70_1
           try clear hcz73_0
           try clear hcz73_1
           try clear hcz74_0
           try clear hcz74_1
           try clear hcz74_2
           try clear hfz49_0
           try clear hfz49_1
           try clear hfz54_0
           try clear hfz54_1
           try clear hfz57_0
           try clear hfz57_1
           try clear hfz57_2
           try clear hfz65_0
           try clear hfz65_1
           try clear hfz70_0
           try clear hfz70_1
           try clear hfz73_0
           try clear hfz73_1
           try clear hfz74_0
           try clear hfz74_1
           try clear hfz74_2
           try clear hx134_0
           try clear hx134_1
           try clear hx140_0
           try clear hx140_1
           try clear p1
           try clear p13
           try clear p134
           try clear p140
           try clear p2
           try clear p6
           try clear q1
           try clear q13
           try clear q134
           try clear q140
           obtain ⟨x103_4, rfl, HA, HK4, BK133, HB⟩ := hrel
           cases gk with
           | zero => exact absurd HA.out (by simp [blast_Check.l2])
           | succ k4 =>
            have H := HA.out
            clear HA
            simp only [blast_Check.l2] at H
            by_cases c75 : x103_4 < (l0_2.length : Int)
            ·rw [if_pos c75] at H
             have c75b0 : decide (x103_4 < (l0_2.length : Int)) = true := decide_eq_true c75
             clear c75
             by_cases c76 : 0 ≤ x103_4
             ·rw [if_pos c76] at H
              have c76b0 : decide (0 ≤ x103_4) = true := decide_eq_true c76
              clear c76
              by_cases c77 : x103_4 < (l0_2.length : Int)
              ·rw [if_pos c77] at H
               have c77b0 : decide (x103_4 < (l0_2.length : Int)) = true := decide_eq_true c77
               clear c77
               by_cases c78 : (rd l0_2 x103_4) < 0
               ·rw [if_pos c78] at H
                have c78b0 : decide ((rd l0_2 x103_4) < 0) = true := decide_eq_true c78
                clear c78
                obtain rfl := Option.some.inj H
                have p142 : 0 ≤ (x103_4 : Int) := of_decide_eq_true q2_
                have q142 : x103_4 < (l0_2.length : Int) := of_decide_eq_true q2_
                obtain ⟨ad142, e142, hx142_0⟩ := Kd.at_int HR0_2.out x103_4 p142 q142
                cases e142
                replace hx142_0 := (HB.out.cell (World.block_lt_of_cell? w _ hx142_0)).trans hx142_0
                replace p142 := eq_true p142
                replace q142 := eq_true q142
                go_wp2
                go_ret
                exact ⟨by first | rfl | (simp [errW_none, errW_some] <;> rfl) | (simp [*, errW_none, errW_some] <;> rfl), by repeat (first | (with_reducible first | exact HB.out | apply below_alloc | apply pw_below_drewN | apply below_drew1 | refine below_set ?_ GE133.out) | exact HB.out)⟩
               ·rw [if_neg c78] at H
                have c78b0 : decide ((rd l0_2 x103_4) < 0) = false := decide_eq_false c78
                clear c78
                by_cases c79 : (rd l0_2 x103_4) ≥ (wrap64 (2 * (wrap64 ((wrap64 (1 + (l0_0.length : Int))) + (l0_1.length : Int)))))
                ·rw [if_pos c79] at H
                 have c79b0 : decide ((wrap64 (2 * (wrap64 ((wrap64 (1 + (l0_0.length : Int))) + (l0_1.length : Int))))) ≤ (rd l0_2 x103_4)) = true := decide_eq_true c79
                 clear c79
                 obtain rfl := Option.some.inj H
                 have p142 : 0 ≤ (x103_4 : Int) := of_decide_eq_true q2_
                 have q142 : x103_4 < (l0_2.length : Int) := of_decide_eq_true q2_
                 obtain ⟨ad142, e142, hx142_0⟩ := Kd.at_int HR0_2.out x103_4 p142 q142
                 cases e142
                 replace hx142_0 := (HB.out.cell (World.block_lt_of_cell? w _ hx142_0)).trans hx142_0
                 replace p142 := eq_true p142
                 replace q142 := eq_true q142
                 have hcz80_0 : wr.cell? ⟨gb133, 0, none⟩ = some (.slice A0_0 l0_0.length c0_0) := (blk_cell BK133.out 0).trans rfl
                 have hcz80_1 : wr.cell? ⟨gb133, 1, none⟩ = some (.slice A0_1 l0_1.length c0_1) := (blk_cell BK133.out 1).trans rfl
                 have hcz80_2 : wr.cell? ⟨gb133, 2, none⟩ = some (.slice (some ad142) l0_2.length c0_2) := (blk_cell BK133.out 2).trans rfl
                 have hfz80_0 := blk_frozen BK133.out 0
                 have hfz80_1 := blk_frozen BK133.out 1
                 have hfz80_2 := blk_frozen BK133.out 2
                 go_wp2
                 go_ret
                 exact ⟨by first | rfl | (simp [errW_none, errW_some] <;> rfl) | (simp [*, errW_none, errW_some] <;> rfl), by repeat (first | (with_reducible first | exact HB.out | apply below_alloc | apply pw_below_drewN | apply below_drew1 | refine below_set ?_ GE133.out) | exact HB.out)⟩
                ·rw [if_neg c79] at H
                 have c79b0 : decide ((wrap64 (2 * (wrap64 ((wrap64 (1 + (l0_0.length : Int))) + (l0_1.length : Int))))) ≤ (rd l0_2 x103_4)) = false := decide_eq_false c79
                 clear c79
                 have H' := Aside0.mk H
                 clear H
                 have p142 : 0 ≤ (x103_4 : Int) := of_decide_eq_true q2_
                 have q142 : x103_4 < (l0_2.length : Int) := of_decide_eq_true q2_
                 obtain ⟨ad142, e142, hx142_0⟩ := Kd.at_int HR0_2.out x103_4 p142 q142
                 cases e142
                 replace hx142_0 := (HB.out.cell (World.block_lt_of_cell? w _ hx142_0)).trans hx142_0
                 replace p142 := eq_true p142
                 replace q142 := eq_true q142
                 have hcz81_0 : wr.cell? ⟨gb133, 0, none⟩ = some (.slice A0_0 l0_0.length c0_0) := (blk_cell BK133.out 0).trans rfl
                 have hcz81_1 : wr.cell? ⟨gb133, 1, none⟩ = some (.slice A0_1 l0_1.length c0_1) := (blk_cell BK133.out 1).trans rfl
                 have hcz81_2 : wr.cell? ⟨gb133, 2, none⟩ = some (.slice (some ad142) l0_2.length c0_2) := (blk_cell BK133.out 2).trans rfl
                 have hfz81_0 := blk_frozen BK133.out 0
                 have hfz81_1 := blk_frozen BK133.out 1
                 have hfz81_2 := blk_frozen BK133.out 2
                 go_wp2
                 go_roundg k4
                 case measure => have := HJ1.out; have := HK2.out; have := HK3.out; have := HK4.out; omega
                 case rel => exact ⟨(wrap64 (x103_4 + 1)), q10_, H', ⟨by have := HJ1.out; have := HK2.out; have := HK3.out; have := HK4.out; omega⟩, ⟨by (with_reducible repeat (first | refine blk_drewN ?_ _ | refine blk_drew ?_ | refine blk_alloc ?_ _)); exact BK133.out⟩, ⟨by repeat (first | (with_reducible first | exact HB.out | apply below_alloc | apply pw_below_drewN | apply below_drew1 | refine below_set ?_ GE133.out) | exact HB.out)⟩⟩
              ·rw [if_neg c77] at H
               exact absurd H (by simp)
             ·rw [if_neg c76] at H
              exact absurd H (by simp)
            ·rw [if_neg c75] at H
             have c75b0 : decide (x103_4 < (l0_2.length : Int)) = false := decide_eq_false c75
             clear c75
             obtain rfl := Option.some.inj H
             go_wp2
             go_ret
             exact ⟨by first | rfl | (simp [errW_none, errW_some] <;> rfl) | (simp [*, errW_none, errW_some] <;> rfl), by repeat (first | (with_reducible first | exact HB.out | apply below_alloc | apply pw_below_drewN | apply below_drew1 | refine below_set ?_ GE133.out) | exact HB.out)⟩

end Go.Proofs.YtjopdafckhkmmaaDoor.MBS
