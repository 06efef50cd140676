/- Functions of the program as Lean functions, and of each a proof that the Go code comes to just its answers. Laid for this claim by wip/drive.py of this repo (our driver over the kit's printing program); no text of print.sh. No condition. -/
import Derived.Test.YtjopdafckhkmmaaDoorCBSatMBSx0
import Derived.Test.YtjopdafckhkmmaaDoorCBSatMBSx6
namespace Go.Proofs.YtjopdafckhkmmaaDoor.MBS
open Go.Proofs.YtjopdafckhkmmaaDoor.Zed Go.RowKit Go.Proofs.YtjopdafckhkmmaaDoorW.PrintWords Go.Proofs.YtjopdafckhkmmaaDoorW.PrintLast Go.Proofs.YtjopdafckhkmmaaDoorW.PrintMore
attribute [local go_sem] max2_int min2_int max_two min_two max_three min_three max_four min_four   -- for this text's walks alone
set_option linter.unusedVariables false
set_option linter.unusedSimpArgs false

/-! ### retargetref04_Nodes: function 21 -/
def retargetref04_Nodes.l0 : Nat → List Bool → Int → List (S44) → List (S49) → List Int → Option (List Bool)
 | 0, _, _, _, _, _ => none
 | k + 1, x5, x6, x208000, x208001, x208002 => if x6 < (x208001.length : Int) then (if 0 ≤ x6 then ((retargetref04_Lit.f x5 ((rd_T49 x208001 x6).f0)).bind fun t215 => (if t215 = true then ((retargetref04_Lit.f x5 ((rd_T49 x208001 x6).f1)).bind fun t217 => (if x5.length < 140737488355328 then (retargetref04_Nodes.l0 k (x5 ++ [t217]) (wrap64 (x6 + 1)) x208000 x208001 x208002) else (none))) else (if x5.length < 140737488355328 then (retargetref04_Nodes.l0 k (x5 ++ [false]) (wrap64 (x6 + 1)) x208000 x208001 x208002) else (none)))) else (none)) else (some x5)
def retargetref04_Nodes.f (k : Nat) (l0_0 : List (S44)) (l0_1 : List (S49)) (l0_2 : List Int) (l1 : List Bool) : Option (List Bool) := (some (([false] : List Bool) : List Bool)).bind fun y208 => (if y208.length + l1.length < 140737488355328 then (retargetref04_Nodes.l0 k (y208 ++ l1) 0 l0_0 l0_1 l0_2) else (none))
theorem retargetref04_Nodes.mono_l : ∀ k, (∀ y0 y1 y2 y3 y4, LeO (retargetref04_Nodes.l0 k y0 y1 y2 y3 y4) (retargetref04_Nodes.l0 (k + 1) y0 y1 y2 y3 y4))
 | 0 => fun _ _ _ _ _ r h => by simp [retargetref04_Nodes.l0] at h
 | k + 1 => by
  have ih0 := retargetref04_Nodes.mono_l k
  ·intro y0 y1 y2 y3 y4
   unfold retargetref04_Nodes.l0
   repeat' first
   | (with_reducible exact ih0 _ _ _ _ _)
   | (with_reducible exact LeO.refl _)
   | (with_reducible exact LeO.none _)
   | (with_reducible refine LeO.ite ?_ ?_)
   | (with_reducible refine LeO.bind ?_ (fun _ => ?_))
   | exact ih0 _ _ _ _ _
   | exact LeO.none _
   | refine LeO.ite ?_ ?_
   | refine LeO.bind ?_ (fun _ => ?_)
theorem retargetref04_Nodes.mono : ∀ a0 a1 a2 a3 k, LeO (retargetref04_Nodes.f k a0 a1 a2 a3) (retargetref04_Nodes.f (k + 1) a0 a1 a2 a3) := by
 intro a0 a1 a2 a3 k
 have ih0 := retargetref04_Nodes.mono_l k
 unfold retargetref04_Nodes.f
 repeat' first
   | (with_reducible exact ih0 _ _ _ _ _)
   | (with_reducible exact LeO.refl _)
   | (with_reducible exact LeO.none _)
   | (with_reducible refine LeO.ite ?_ ?_)
   | (with_reducible refine LeO.bind ?_ (fun _ => ?_))
   | exact ih0 _ _ _ _ _
   | exact LeO.none _
   | refine LeO.ite ?_ ?_
   | refine LeO.bind ?_ (fun _ => ?_)
set_option maxHeartbeats 8000000 in
set_option maxRecDepth 100000 in
theorem retargetref04_Nodes.calls (k : Nat) (A0_0 : Option Addr) (c0_0 : Nat) (l0_0 : List (S44)) (A0_1 : Option Addr) (c0_1 : Nat) (l0_1 : List (S49)) (A0_2 : Option Addr) (c0_2 : Nat) (l0_2 : List Int) (A1 : Option Addr) (c1 : Nat) (l1 : List Bool) (r : List Bool) (w : World) (hr0_0 : Kd.C k44 w A0_0 l0_0.length l0_0) (hc0_0 : l0_0.length ≤ c0_0) (hr0_1 : Kd.C k49 w A0_1 l0_1.length l0_1) (hc0_1 : l0_1.length ≤ c0_1) (hr0_2 : Kd.C (Kd.int .i64) w A0_2 l0_2.length l0_2) (hc0_2 : l0_2.length ≤ c0_2) (hr1 : Kd.C Kd.bool w A1 l1.length l1) (hc1 : l1.length ≤ c1) (h : retargetref04_Nodes.f k l0_0 l0_1 l0_2 l1 = some r) :
  Calls Tryd.prog 21 #[.agg #[.slice A0_0 l0_0.length c0_0, .slice A0_1 l0_1.length c0_1, .slice A0_2 l0_2.length c0_2], .slice A1 l1.length c1] w fun e w' => ∃ v0_ : Value, e = .returned (v0_) ∧ Kd.R Kd.bool 4 w' w.heap.size (fun _ => True) v0_ r ∧ Below w.heap.size w w' := by
 have hu32 := Tryd.underlying32
 have HR0_0 := Aside0.mk hr0_0
 have HC0_0 := Aside0.mk hc0_0
 clear hr0_0 hc0_0
 have HR0_1 := Aside0.mk hr0_1
 have HC0_1 := Aside0.mk hc0_1
 clear hr0_1 hc0_1
 have HR0_2 := Aside0.mk hr0_2
 have HC0_2 := Aside0.mk hc0_2
 clear hr0_2 hc0_2
 have HR1 := Aside0.mk hr1
 have HC1 := Aside0.mk hc1
 clear hr1 hc1
 have HB := Aside0.mk (Below.refl w.heap.size w)
 have H : ((some (([false] : List Bool) : List Bool)).bind fun y208 => (if y208.length + l1.length < 140737488355328 then (retargetref04_Nodes.l0 k (y208 ++ l1) 0 l0_0 l0_1 l0_2) else (none))) = some r := h
 clear h
 obtain ⟨y208, hy208⟩ : ∃ y_ : List Bool, y_ = (([false] : List Bool)) := ⟨_, rfl⟩
 replace H : (if y208.length + l1.length < 140737488355328 then (retargetref04_Nodes.l0 k (y208 ++ l1) 0 l0_0 l0_1 l0_2) else (none)) = some r := by first | (rw [hy208]; with_reducible exact H) | (have H2_ := (Option.bind_some _ _).symm.trans H; rw [hy208]; with_reducible exact H2_) | (have H2_ := (Option.bind_some _ _).symm.trans H; with_reducible exact H2_) | with_reducible exact H | (rw [hy208]; exact H) | exact H
 have Ny208 := Aside0.mk hy208
 clear hy208
 by_cases c3 : y208.length + l1.length < 140737488355328
 ·rw [if_pos c3] at H
  have LMc3 := Aside0.mk c3
  clear c3
  obtain ⟨y211, hy211⟩ : ∃ y_ : List Bool, y_ = (y208 ++ l1) := ⟨_, rfl⟩
  replace H : (retargetref04_Nodes.l0 k y211 0 l0_0 l0_1 l0_2) = some r := by first | (rw [hy211]; with_reducible exact H) | (have H2_ := (Option.bind_some _ _).symm.trans H; rw [hy211]; with_reducible exact H2_) | (have H2_ := (Option.bind_some _ _).symm.trans H; with_reducible exact H2_) | with_reducible exact H | (rw [hy211]; exact H) | exact H
  have Ny211 := Aside0.mk hy211
  clear hy211
  have H' := Aside0.mk H
  clear H
  go_enter Tryd.func21, Tryd.ntmps21
  go_wp2_with (first | ((with_reducible refine gate_dst (N := 2) rfl ?_); refine box_event ?hg (N := 2) ?hd (cs := #[.slice A0_0 l0_0.length c0_0, .slice A0_1 l0_1.length c0_1, .slice A0_2 l0_2.length c0_2]) (t := 32) ?hr ?_; (case hd => rfl); (case hg => rfl); (case hr => first | (go_simp; done) | (go_simp; rfl)); intro gb207 hg w4 hbox hb; have n0_ := Aside0.mk (below_step q0_ hb); have n1_ := Aside0.mk (hbox); have n2_ := Aside0.mk ((by rw [hg]; exact (below_size q0_) : w.heap.size ≤ gb207)); have n3_ := Aside0.mk ((by rw [hg]; exact (below_size q0_) : w.heap.size ≤ gb207)); clear HB; have HB := n0_; have BK207 := n1_; have GW207 := n2_; have GE207 := n3_; clear n0_ n1_ n2_ n3_; clear hb hbox hg) | ((with_reducible refine gate_dst (N := 7) rfl ?_); refine Kd.R_lit Kd.bool _ 4 ?hg (N := 7) ?hd (xs := ([false] : List Bool)) (inner := [.bool false]) (ok := fun _ => True) (okp := fun _ => True) ?hr ?hp (fun _ hk => hk) trivial (Below.refl _ _) (Nat.le_refl _) (by simp) ?_; (case hd => rfl); (case hg => rfl); (case hr => first | (go_simp; done) | (go_simp; rfl)); (case hp => exact (Reps.one (show Kd.M Kd.bool _ _ _ false [.bool false] from rfl) (Reps.none _ _))); intro v209 w5 ho6 hb hg_ hnew_; clear hg_ hnew_; (first | rw [← Ny208.out] at ho6 | (simp only [Int.reduceToNat] at ho6; rw [← Ny208.out] at ho6)); have n0_ := Aside0.mk (Kd.R_lower ho6 (below_size q24_)); have n1_ := Aside0.mk (blk_below (g := gb207) (o := .cells #[.slice A0_0 l0_0.length c0_0, .slice A0_1 l0_1.length c0_1, .slice A0_2 l0_2.length c0_2] 32 (0, 0)) (by (with_reducible repeat (first | refine blk_drewN ?_ _ | refine blk_drew ?_ | refine blk_alloc ?_ _)); exact BK207.out) hb); have n2_ := Aside0.mk (below_step q24_ hb); clear BK207; clear HB; have HO210 := n0_; have BK207 := n1_; have HB := n2_; clear n0_ n1_ n2_; clear hb ho6) | ((with_reducible refine gate_builtin (b := .append) (xs := #[.tmp 7, .tmp 8]) rfl ?_); at_builtin; refine Kd.R_append_rows Kd.bool (w0 := w) w.heap.size rfl (.tmp 7) (.tmp 8) 50 4 (.bool false) 1 rfl Tryd.underlying50 info4 rfl q33_ q29_ v209 y208 l1 _ _ _ (fun _ => True) (fun _ => False) rfl rfl ?aO ?aR (fun _ _ h => h) (fun _ h => h.elim) ?aF ?aB ?aS ?aL ?_; (case aR => repeat (first | exact (Kd.C_below HR1.out HB.out) | (with_reducible refine Kd.C_alloc ?_ _) | (with_reducible refine Kd.C_drewN ?_ _) | (with_reducible refine Kd.C_drew ?_))); (case aB => exact q24_); (case aF => exact (fun _ _ => trivial)); (case aO => exact (by (with_reducible repeat (first | apply Kd.R_alloc | apply Kd.R_drewN | apply Kd.R_drew)); exact HO210.out)); (case aS => exact (below_size q24_)); (case aL => have := LMc3.out; omega); intro v212 w7 ho hb hg hat; rw [← Ny211.out] at ho; have n0_ := Aside0.mk (blk_grown (g := gb207) (o := .cells #[.slice A0_0 l0_0.length c0_0, .slice A0_1 l0_1.length c0_1, .slice A0_2 l0_2.length c0_2] 32 (0, 0)) (by (with_reducible repeat (first | refine blk_drewN ?_ _ | refine blk_drew ?_ | refine blk_alloc ?_ _)); exact BK207.out) hg (Kd.R_ne HO210.out BK207.out q33_)); have n1_ := Aside0.mk (hb); have n2_ := Aside0.mk (ho); clear BK207; clear HB; clear HO210; have BK207 := n0_; have HB := n1_; have HO213 := n2_; clear n0_ n1_ n2_; clear ho hb hg hat))
  go_loopg [5, 6] k (fun kq v5 v6 w' => ∃ (x5_1 : List Bool) (x6_1 : Int), v6 = .int .i64 x6_1 ∧ Aside0 (retargetref04_Nodes.l0 kq x5_1 x6_1 l0_0 l0_1 l0_2 = some r) ∧ Aside0 (kq ≤ k) ∧ Aside0 (Kd.R Kd.bool 4 w' w.heap.size (fun _ => True) v5 x5_1) ∧ Aside0 (w'.heap[gb207]? = some (.cells #[(.slice A0_0 l0_0.length c0_0), (.slice A0_1 l0_1.length c0_1), (.slice A0_2 l0_2.length c0_2)] 32 (0, 0))) ∧ Aside0 (Below w.heap.size w w'))
  case atStart => exact ⟨(y211), (0), q10_, H', ⟨Nat.le_refl _⟩, ⟨by (with_reducible repeat (first | apply Kd.R_alloc | apply Kd.R_drewN | apply Kd.R_drew)); exact HO213.out⟩, ⟨by (with_reducible repeat (first | refine blk_drewN ?_ _ | refine blk_drew ?_ | refine blk_alloc ?_ _)); exact BK207.out⟩, ⟨by repeat (first | (with_reducible first | exact HB.out | apply below_alloc | apply pw_below_drewN | apply below_drew1 | refine below_set ?_ GE207.out) | exact HB.out)⟩⟩
  case round =>
   clear H'
   try clear c1
   try clear c2
   try clear p2
   try clear c3
   obtain ⟨x5_1, x6_1, rfl, HA, HK1, HO_5, BK207, HB⟩ := hrel
   cases gk with
   | zero => exact absurd HA.out (by simp [retargetref04_Nodes.l0])
   | succ k1 =>
    have H := HA.out
    clear HA
    simp only [retargetref04_Nodes.l0] at H
    by_cases c8 : x6_1 < (l0_1.length : Int)
    ·rw [if_pos c8] at H
     have c8b0 : decide (x6_1 < (l0_1.length : Int)) = true := decide_eq_true c8
     clear c8
     by_cases c9 : 0 ≤ x6_1
     ·rw [if_pos c9] at H
      have c9b0 : decide (0 ≤ x6_1) = true := decide_eq_true c9
      clear c9
      replace H := Option.bind_eq_some_iff.mp H
      obtain ⟨t215, A100, H⟩ := H
      replace H : (if t215 = true then ((retargetref04_Lit.f x5_1 ((rd_T49 l0_1 x6_1).f1)).bind fun t217 => (if x5_1.length < 140737488355328 then (retargetref04_Nodes.l0 k1 (x5_1 ++ [t217]) (wrap64 (x6_1 + 1)) l0_0 l0_1 l0_2) else (none))) else (if x5_1.length < 140737488355328 then (retargetref04_Nodes.l0 k1 (x5_1 ++ [false]) (wrap64 (x6_1 + 1)) l0_0 l0_1 l0_2) else (none))) = some r := H
      have A10 := Aside0.mk A100
      clear A100
      by_cases c11 : t215 = true
      ·subst c11
       have H1 : ((retargetref04_Lit.f x5_1 ((rd_T49 l0_1 x6_1).f1)).bind fun t217 => (if x5_1.length < 140737488355328 then (retargetref04_Nodes.l0 k1 (x5_1 ++ [t217]) (wrap64 (x6_1 + 1)) l0_0 l0_1 l0_2) else (none))) = some r := by rw [if_pos rfl] at H; exact H
       clear H
       have H := H1
       clear H1
       replace H := Option.bind_eq_some_iff.mp H
       obtain ⟨t217, A120, H⟩ := H
       replace H : (if x5_1.length < 140737488355328 then (retargetref04_Nodes.l0 k1 (x5_1 ++ [t217]) (wrap64 (x6_1 + 1)) l0_0 l0_1 l0_2) else (none)) = some r := H
       have A12 := Aside0.mk A120
       clear A120
       by_cases c13 : x5_1.length < 140737488355328
       ·rw [if_pos c13] at H
        have LMc13 := Aside0.mk c13
        clear c13
        obtain ⟨y218, hy218⟩ : ∃ y_ : List Bool, y_ = (x5_1 ++ [t217]) := ⟨_, rfl⟩
        replace H : (retargetref04_Nodes.l0 k1 y218 (wrap64 (x6_1 + 1)) l0_0 l0_1 l0_2) = some r := by first | (rw [hy218]; with_reducible exact H) | (have H2_ := (Option.bind_some _ _).symm.trans H; rw [hy218]; with_reducible exact H2_) | (have H2_ := (Option.bind_some _ _).symm.trans H; with_reducible exact H2_) | with_reducible exact H | (rw [hy218]; exact H) | exact H
        have Ny218 := Aside0.mk hy218
        clear hy218
        have H' := Aside0.mk H
        clear H
        have hcz14_0 : wr.cell? ⟨gb207, 0, none⟩ = some (.slice A0_0 l0_0.length c0_0) := (blk_cell BK207.out 0).trans rfl
        have hcz14_1 : wr.cell? ⟨gb207, 1, none⟩ = some (.slice A0_1 l0_1.length c0_1) := (blk_cell BK207.out 1).trans rfl
        have hcz14_2 : wr.cell? ⟨gb207, 2, none⟩ = some (.slice A0_2 l0_2.length c0_2) := (blk_cell BK207.out 2).trans rfl
        have hfz14_0 := blk_frozen BK207.out 0
        have hfz14_1 := blk_frozen BK207.out 1
        have hfz14_2 := blk_frozen BK207.out 2
        have p214 : 0 ≤ (x6_1 : Int) := of_decide_eq_true q2_
        have q214 : x6_1 < (l0_1.length : Int) := of_decide_eq_true q2_
        obtain ⟨ad214, e214, hx214_0, hx214_1⟩ := at_T49 HR0_1.out x6_1 p214 q214
        cases e214
        replace hx214_0 := (HB.out.cell (World.block_lt_of_cell? w _ hx214_0)).trans hx214_0
        replace hx214_1 := (HB.out.cell (World.block_lt_of_cell? w _ hx214_1)).trans hx214_1
        replace p214 := eq_true p214
        replace q214 := eq_true q214
        obtain ⟨Ao15, co15, eo15⟩ := Kd.R_slice HO_5.out
        subst eo15
        go_wp2_with (first | ((with_reducible refine gate_callee (f := 42) rfl ?_); refine goesL_ (some 25) rfl rfl Tryd.func42 q28_ rfl #[.slice Ao15 x5_1.length co15, .int .i64 ((rd_T49 l0_1 x6_1).f0)] rfl q6_ ?_; (with_reducible refine (retargetref04_Lit.calls _ _ x5_1 ((rd_T49 l0_1 x6_1).f0) true _ ?side1 ?side2 A10.out).mono ?_); (case side1 => repeat (first | exact (Kd.R_reads' HO_5.out).2.2 | (with_reducible refine Kd.C_alloc ?_ _) | (with_reducible refine Kd.C_drewN ?_ _) | (with_reducible refine Kd.C_drew ?_))); (case side2 => exact (Kd.R_reads' HO_5.out).2.1); rintro e w' ⟨rfl, ⟨nd, rfl⟩⟩; refine ⟨_, rfl, ?_⟩; have p216 : 0 ≤ (x6_1 : Int) := of_decide_eq_true q2_; have q216 : x6_1 < (l0_1.length : Int) := of_decide_eq_true q2_; obtain ⟨ad216, e216, hx216_0, hx216_1⟩ := at_T49 HR0_1.out x6_1 p216 q216; obtain rfl : ad214 = ad216 := (by injection e216); replace hx216_0 := (HB.out.cell (World.block_lt_of_cell? w _ hx216_0)).trans hx216_0; replace hx216_1 := (HB.out.cell (World.block_lt_of_cell? w _ hx216_1)).trans hx216_1; replace p216 := eq_true p216; replace q216 := eq_true q216) | (go_at_call 42; (with_reducible refine (retargetref04_Lit.calls _ _ x5_1 ((rd_T49 l0_1 x6_1).f1) t217 _ ?side1 ?side2 A12.out).mono ?_); (case side1 => repeat (first | exact (Kd.R_reads' HO_5.out).2.2 | (with_reducible refine Kd.C_alloc ?_ _) | (with_reducible refine Kd.C_drewN ?_ _) | (with_reducible refine Kd.C_drew ?_))); (case side2 => exact (Kd.R_reads' HO_5.out).2.1); rintro e w' ⟨rfl, ⟨nd, rfl⟩⟩) | ((with_reducible refine gate_builtin (b := .append) (xs := #[.tmp 17, .tmp 36]) rfl ?_); at_builtin; refine Kd.R_append Kd.bool (w0 := w) w.heap.size rfl (.tmp 17) (.tmp 36) 50 4 (.bool false) 1 rfl Tryd.underlying50 info4 rfl q33_ q29_ (.slice Ao15 x5_1.length co15) x5_1 t217 [.bool t217] (fun _ => True) (fun _ => False) rfl rfl ?aP (fun _ hk => hk.elim) ?aF ?aO ?aB ?aS ?aL ?_; (case aP => exact rfl); (case aB => exact q24_); (case aF => exact (fun _ _ => trivial)); (case aO => exact (by (with_reducible repeat (first | apply Kd.R_alloc | apply Kd.R_drewN | apply Kd.R_drew)); exact HO_5.out)); (case aS => exact (below_size q24_)); (case aL => have := LMc13.out; omega); intro v219 w16 ho hb hg hat; rw [← Ny218.out] at ho; have n0_ := Aside0.mk (blk_grown (g := gb207) (o := .cells #[.slice A0_0 l0_0.length c0_0, .slice (some ad214) l0_1.length c0_1, .slice A0_2 l0_2.length c0_2] 32 (0, 0)) (by (with_reducible repeat (first | refine blk_drewN ?_ _ | refine blk_drew ?_ | refine blk_alloc ?_ _)); exact BK207.out) hg (Kd.R_ne HO_5.out BK207.out q33_)); have n1_ := Aside0.mk (hb); have n2_ := Aside0.mk (ho); clear BK207; clear HB; clear HO_5; have BK207 := n0_; have HB := n1_; have HO220 := n2_; clear n0_ n1_ n2_; clear ho hb hg hat))
        go_roundg k1
        case measure => have := HK1.out; omega
        case rel => exact ⟨(y218), (wrap64 (x6_1 + 1)), q10_, H', ⟨by have := HK1.out; omega⟩, ⟨by (with_reducible repeat (first | apply Kd.R_alloc | apply Kd.R_drewN | apply Kd.R_drew)); exact HO220.out⟩, ⟨by (with_reducible repeat (first | refine blk_drewN ?_ _ | refine blk_drew ?_ | refine blk_alloc ?_ _)); exact BK207.out⟩, ⟨by repeat (first | (with_reducible first | exact HB.out | apply below_alloc | apply pw_below_drewN | apply below_drew1 | refine below_set ?_ GE207.out) | exact HB.out)⟩⟩
       ·rw [if_neg c13] at H
        exact absurd H (by simp)
      ·replace c11 := Bool.eq_false_iff.mpr c11
       subst c11
       have H1 : (if x5_1.length < 140737488355328 then (retargetref04_Nodes.l0 k1 (x5_1 ++ [false]) (wrap64 (x6_1 + 1)) l0_0 l0_1 l0_2) else (none)) = some r := by rw [if_neg (show ¬ (false = true) by decide)] at H; exact H
       clear H
       have H := H1
       clear H1
       by_cases c17 : x5_1.length < 140737488355328
       ·rw [if_pos c17] at H
        have LMc17 := Aside0.mk c17
        clear c17
        obtain ⟨y221, hy221⟩ : ∃ y_ : List Bool, y_ = (x5_1 ++ [false]) := ⟨_, rfl⟩
        replace H : (retargetref04_Nodes.l0 k1 y221 (wrap64 (x6_1 + 1)) l0_0 l0_1 l0_2) = some r := by first | (rw [hy221]; with_reducible exact H) | (have H2_ := (Option.bind_some _ _).symm.trans H; rw [hy221]; with_reducible exact H2_) | (have H2_ := (Option.bind_some _ _).symm.trans H; with_reducible exact H2_) | with_reducible exact H | (rw [hy221]; exact H) | exact H
        have Ny221 := Aside0.mk hy221
        clear hy221
        have H' := Aside0.mk H
        clear H
        have hcz18_0 : wr.cell? ⟨gb207, 0, none⟩ = some (.slice A0_0 l0_0.length c0_0) := (blk_cell BK207.out 0).trans rfl
        have hcz18_1 : wr.cell? ⟨gb207, 1, none⟩ = some (.slice A0_1 l0_1.length c0_1) := (blk_cell BK207.out 1).trans rfl
        have hcz18_2 : wr.cell? ⟨gb207, 2, none⟩ = some (.slice A0_2 l0_2.length c0_2) := (blk_cell BK207.out 2).trans rfl
        have hfz18_0 := blk_frozen BK207.out 0
        have hfz18_1 := blk_frozen BK207.out 1
        have hfz18_2 := blk_frozen BK207.out 2
        have p214 : 0 ≤ (x6_1 : Int) := of_decide_eq_true q2_
        have q214 : x6_1 < (l0_1.length : Int) := of_decide_eq_true q2_
        obtain ⟨ad214, e214, hx214_0, hx214_1⟩ := at_T49 HR0_1.out x6_1 p214 q214
        cases e214
        replace hx214_0 := (HB.out.cell (World.block_lt_of_cell? w _ hx214_0)).trans hx214_0
        replace hx214_1 := (HB.out.cell (World.block_lt_of_cell? w _ hx214_1)).trans hx214_1
        replace p214 := eq_true p214
        replace q214 := eq_true q214
        obtain ⟨Ao19, co19, eo19⟩ := Kd.R_slice HO_5.out
        subst eo19
        go_wp2_with (first | ((with_reducible refine gate_callee (f := 42) rfl ?_); refine goesL_ (some 25) rfl rfl Tryd.func42 q28_ rfl #[.slice Ao19 x5_1.length co19, .int .i64 ((rd_T49 l0_1 x6_1).f0)] rfl q6_ ?_; (with_reducible refine (retargetref04_Lit.calls _ _ x5_1 ((rd_T49 l0_1 x6_1).f0) false _ ?side1 ?side2 A10.out).mono ?_); (case side1 => repeat (first | exact (Kd.R_reads' HO_5.out).2.2 | (with_reducible refine Kd.C_alloc ?_ _) | (with_reducible refine Kd.C_drewN ?_ _) | (with_reducible refine Kd.C_drew ?_))); (case side2 => exact (Kd.R_reads' HO_5.out).2.1); rintro e w' ⟨rfl, ⟨nd, rfl⟩⟩; refine ⟨_, rfl, ?_⟩) | ((with_reducible refine gate_builtin (b := .append) (xs := #[.tmp 17, .tmp 36]) rfl ?_); at_builtin; refine Kd.R_append Kd.bool (w0 := w) w.heap.size rfl (.tmp 17) (.tmp 36) 50 4 (.bool false) 1 rfl Tryd.underlying50 info4 rfl q33_ q29_ (.slice Ao19 x5_1.length co19) x5_1 false [.bool false] (fun _ => True) (fun _ => False) rfl rfl ?aP (fun _ hk => hk.elim) ?aF ?aO ?aB ?aS ?aL ?_; (case aP => exact rfl); (case aB => exact q24_); (case aF => exact (fun _ _ => trivial)); (case aO => exact (by (with_reducible repeat (first | apply Kd.R_alloc | apply Kd.R_drewN | apply Kd.R_drew)); exact HO_5.out)); (case aS => exact (below_size q24_)); (case aL => have := LMc17.out; omega); intro v222 w20 ho hb hg hat; rw [← Ny221.out] at ho; have n0_ := Aside0.mk (blk_grown (g := gb207) (o := .cells #[.slice A0_0 l0_0.length c0_0, .slice (some ad214) l0_1.length c0_1, .slice A0_2 l0_2.length c0_2] 32 (0, 0)) (by (with_reducible repeat (first | refine blk_drewN ?_ _ | refine blk_drew ?_ | refine blk_alloc ?_ _)); exact BK207.out) hg (Kd.R_ne HO_5.out BK207.out q33_)); have n1_ := Aside0.mk (hb); have n2_ := Aside0.mk (ho); clear BK207; clear HB; clear HO_5; have BK207 := n0_; have HB := n1_; have HO223 := n2_; clear n0_ n1_ n2_; clear ho hb hg hat))
        go_roundg k1
        case measure => have := HK1.out; omega
        case rel => exact ⟨(y221), (wrap64 (x6_1 + 1)), q10_, H', ⟨by have := HK1.out; omega⟩, ⟨by (with_reducible repeat (first | apply Kd.R_alloc | apply Kd.R_drewN | apply Kd.R_drew)); exact HO223.out⟩, ⟨by (with_reducible repeat (first | refine blk_drewN ?_ _ | refine blk_drew ?_ | refine blk_alloc ?_ _)); exact BK207.out⟩, ⟨by repeat (first | (with_reducible first | exact HB.out | apply below_alloc | apply pw_below_drewN | apply below_drew1 | refine below_set ?_ GE207.out) | exact HB.out)⟩⟩
       ·rw [if_neg c17] at H
        exact absurd H (by simp)
     ·rw [if_neg c9] at H
      exact absurd H (by simp)
    ·rw [if_neg c8] at H
     have c8b0 : decide (x6_1 < (l0_1.length : Int)) = false := decide_eq_false c8
     clear c8
     obtain rfl := Option.some.inj H
     have hcz21_0 : wr.cell? ⟨gb207, 0, none⟩ = some (.slice A0_0 l0_0.length c0_0) := (blk_cell BK207.out 0).trans rfl
     have hcz21_1 : wr.cell? ⟨gb207, 1, none⟩ = some (.slice A0_1 l0_1.length c0_1) := (blk_cell BK207.out 1).trans rfl
     have hcz21_2 : wr.cell? ⟨gb207, 2, none⟩ = some (.slice A0_2 l0_2.length c0_2) := (blk_cell BK207.out 2).trans rfl
     have hfz21_0 := blk_frozen BK207.out 0
     have hfz21_1 := blk_frozen BK207.out 1
     have hfz21_2 := blk_frozen BK207.out 2
     go_wp2
     go_ret
     exact ⟨_, by first | rfl | (simp [errW_none, errW_some] <;> rfl) | (simp [*, errW_none, errW_some] <;> rfl), by (with_reducible repeat (first | apply Kd.R_alloc | apply Kd.R_drewN | apply Kd.R_drew)); exact HO_5.out, by repeat (first | (with_reducible first | exact HB.out | apply below_alloc | apply pw_below_drewN | apply below_drew1 | refine below_set ?_ GE207.out) | exact HB.out)⟩
 ·rw [if_neg c3] at H
  exact absurd H (by simp)

/-! ### retargetlaw04_satisfied: function 22 -/
mutual
def retargetlaw04_satisfied.l0 : Nat → List (List Int) → List Bool → Int → Option (Bool)
 | 0, _, _, _ => none
 | k + 1, x0, x1, x5 => if x5 < (x0.length : Int) then (retargetlaw04_satisfied.l1 k x0 x1 x5 false 0) else (some true)
def retargetlaw04_satisfied.l1 : Nat → List (List Int) → List Bool → Int → Bool → Int → Option (Bool)
 | 0, _, _, _, _, _ => none
 | k + 1, x0, x1, x5, x6, x7 => if 0 ≤ x5 then (if x5 < (x0.length : Int) then (if x7 < ((rd_L9 x0 x5).length : Int) then (if 0 ≤ x7 then (if (rd (rd_L9 x0 x5) x7) > 0 then (retargetlaw04_satisfied.j2 k x0 x1 x5 x6 x7 (rd (rd_L9 x0 x5) x7) (decide ((rd (rd_L9 x0 x5) x7) ≤ (x1.length : Int)))) else (retargetlaw04_satisfied.j2 k x0 x1 x5 x6 x7 (rd (rd_L9 x0 x5) x7) false)) else (none)) else (if x6 = true then (retargetlaw04_satisfied.l0 k x0 x1 (wrap64 (x5 + 1))) else (some false))) else (none)) else (none)
def retargetlaw04_satisfied.j2 : Nat → List (List Int) → List Bool → Int → Bool → Int → Int → Bool → Option (Bool)
 | 0, _, _, _, _, _, _, _ => none
 | k + 1, x0, x1, x5, x6, x7, x8, x38 => if x38 = true then (if x6 = true then (if x8 < 0 then (if x8 ≥ (wrap64 (-(x1.length : Int))) then (retargetlaw04_satisfied.l1 k x0 x1 x5 true (wrap64 (x7 + 1))) else (retargetlaw04_satisfied.l1 k x0 x1 x5 true (wrap64 (x7 + 1)))) else (retargetlaw04_satisfied.l1 k x0 x1 x5 true (wrap64 (x7 + 1)))) else (if 0 ≤ (wrap64 (x8 - 1)) then (if (wrap64 (x8 - 1)) < (x1.length : Int) then (if x8 < 0 then (if x8 ≥ (wrap64 (-(x1.length : Int))) then (if rdOf false x1 (wrap64 (x8 - 1)) = true then (retargetlaw04_satisfied.l1 k x0 x1 x5 true (wrap64 (x7 + 1))) else (if 0 ≤ (wrap64 ((wrap64 (-x8)) - 1)) then (if (wrap64 ((wrap64 (-x8)) - 1)) < (x1.length : Int) then (retargetlaw04_satisfied.l1 k x0 x1 x5 (!(rdOf false x1 (wrap64 ((wrap64 (-x8)) - 1)))) (wrap64 (x7 + 1))) else (none)) else (none))) else (retargetlaw04_satisfied.l1 k x0 x1 x5 (rdOf false x1 (wrap64 (x8 - 1))) (wrap64 (x7 + 1)))) else (retargetlaw04_satisfied.l1 k x0 x1 x5 (rdOf false x1 (wrap64 (x8 - 1))) (wrap64 (x7 + 1)))) else (none)) else (none))) else (if x8 < 0 then (if x8 ≥ (wrap64 (-(x1.length : Int))) then (if x6 = true then (retargetlaw04_satisfied.l1 k x0 x1 x5 true (wrap64 (x7 + 1))) else (if 0 ≤ (wrap64 ((wrap64 (-x8)) - 1)) then (if (wrap64 ((wrap64 (-x8)) - 1)) < (x1.length : Int) then (retargetlaw04_satisfied.l1 k x0 x1 x5 (!(rdOf false x1 (wrap64 ((wrap64 (-x8)) - 1)))) (wrap64 (x7 + 1))) else (none)) else (none))) else (retargetlaw04_satisfied.l1 k x0 x1 x5 x6 (wrap64 (x7 + 1)))) else (retargetlaw04_satisfied.l1 k x0 x1 x5 x6 (wrap64 (x7 + 1))))
end
def retargetlaw04_satisfied.f (k : Nat) (l0 : List (List Int)) (l1 : List Bool) : Option (Bool) := retargetlaw04_satisfied.l0 k l0 l1 0
theorem retargetlaw04_satisfied.mono_l : ∀ k, (∀ y0 y1 y2, LeO (retargetlaw04_satisfied.l0 k y0 y1 y2) (retargetlaw04_satisfied.l0 (k + 1) y0 y1 y2)) ∧ (∀ y0 y1 y2 y3 y4, LeO (retargetlaw04_satisfied.l1 k y0 y1 y2 y3 y4) (retargetlaw04_satisfied.l1 (k + 1) y0 y1 y2 y3 y4)) ∧ (∀ y0 y1 y2 y3 y4 y5 y6, LeO (retargetlaw04_satisfied.j2 k y0 y1 y2 y3 y4 y5 y6) (retargetlaw04_satisfied.j2 (k + 1) y0 y1 y2 y3 y4 y5 y6))
 | 0 => ⟨fun _ _ _ r h => by simp [retargetlaw04_satisfied.l0] at h, fun _ _ _ _ _ r h => by simp [retargetlaw04_satisfied.l1] at h, fun _ _ _ _ _ _ _ r h => by simp [retargetlaw04_satisfied.j2] at h⟩
 | k + 1 => by
  obtain ⟨ih0, ih1, ih2⟩ := retargetlaw04_satisfied.mono_l k
  refine ⟨?_, ?_, ?_⟩
  ·intro y0 y1 y2
   unfold retargetlaw04_satisfied.l0
   repeat' first
   | (with_reducible exact ih0 _ _ _)
   | (with_reducible exact ih1 _ _ _ _ _)
   | (with_reducible exact ih2 _ _ _ _ _ _ _)
   | (with_reducible exact LeO.refl _)
   | (with_reducible exact LeO.none _)
   | (with_reducible refine LeO.ite ?_ ?_)
   | (with_reducible refine LeO.bind ?_ (fun _ => ?_))
   | exact ih0 _ _ _
   | exact ih1 _ _ _ _ _
   | exact ih2 _ _ _ _ _ _ _
   | exact LeO.none _
   | refine LeO.ite ?_ ?_
   | refine LeO.bind ?_ (fun _ => ?_)
  ·intro y0 y1 y2 y3 y4
   unfold retargetlaw04_satisfied.l1
   repeat' first
   | (with_reducible exact ih0 _ _ _)
   | (with_reducible exact ih1 _ _ _ _ _)
   | (with_reducible exact ih2 _ _ _ _ _ _ _)
   | (with_reducible exact LeO.refl _)
   | (with_reducible exact LeO.none _)
   | (with_reducible refine LeO.ite ?_ ?_)
   | (with_reducible refine LeO.bind ?_ (fun _ => ?_))
   | exact ih0 _ _ _
   | exact ih1 _ _ _ _ _
   | exact ih2 _ _ _ _ _ _ _
   | exact LeO.none _
   | refine LeO.ite ?_ ?_
   | refine LeO.bind ?_ (fun _ => ?_)
  ·intro y0 y1 y2 y3 y4 y5 y6
   unfold retargetlaw04_satisfied.j2
   repeat' first
   | (with_reducible exact ih0 _ _ _)
   | (with_reducible exact ih1 _ _ _ _ _)
   | (with_reducible exact ih2 _ _ _ _ _ _ _)
   | (with_reducible exact LeO.refl _)
   | (with_reducible exact LeO.none _)
   | (with_reducible refine LeO.ite ?_ ?_)
   | (with_reducible refine LeO.bind ?_ (fun _ => ?_))
   | exact ih0 _ _ _
   | exact ih1 _ _ _ _ _
   | exact ih2 _ _ _ _ _ _ _
   | exact LeO.none _
   | refine LeO.ite ?_ ?_
   | refine LeO.bind ?_ (fun _ => ?_)
theorem retargetlaw04_satisfied.mono : ∀ a0 a1 k, LeO (retargetlaw04_satisfied.f k a0 a1) (retargetlaw04_satisfied.f (k + 1) a0 a1) := by
 intro a0 a1 k
 obtain ⟨ih0, ih1, ih2⟩ := retargetlaw04_satisfied.mono_l k
 unfold retargetlaw04_satisfied.f
 repeat' first
   | (with_reducible exact ih0 _ _ _)
   | (with_reducible exact ih1 _ _ _ _ _)
   | (with_reducible exact ih2 _ _ _ _ _ _ _)
   | (with_reducible exact LeO.refl _)
   | (with_reducible exact LeO.none _)
   | (with_reducible refine LeO.ite ?_ ?_)
   | (with_reducible refine LeO.bind ?_ (fun _ => ?_))
   | exact ih0 _ _ _
   | exact ih1 _ _ _ _ _
   | exact ih2 _ _ _ _ _ _ _
   | exact LeO.none _
   | refine LeO.ite ?_ ?_
   | refine LeO.bind ?_ (fun _ => ?_)
set_option maxHeartbeats 8000000 in
set_option maxRecDepth 100000 in
theorem retargetlaw04_satisfied.calls (k : Nat) (A0 : Option Addr) (c0 : Nat) (l0 : List (List Int)) (A1 : Option Addr) (c1 : Nat) (l1 : List Bool) (r : Bool) (w : World) (hr0 : Kd.C (Kd.slice 3 (Kd.int .i64)) w A0 l0.length l0) (hc0 : l0.length ≤ c0) (hr1 : Kd.C Kd.bool w A1 l1.length l1) (hc1 : l1.length ≤ c1) (h : retargetlaw04_satisfied.f k l0 l1 = some r) :
  Calls Tryd.prog 22 #[.slice A0 l0.length c0, .slice A1 l1.length c1] w fun e w' => e = .returned (.bool r) ∧ Drawn0 w w' := by
 have HR0 := Aside0.mk hr0
 have HC0 := Aside0.mk hc0
 clear hr0 hc0
 have HR1 := Aside0.mk hr1
 have HC1 := Aside0.mk hc1
 clear hr1 hc1
 have H : (retargetlaw04_satisfied.l0 k l0 l1 0) = some r := h
 clear h
 have H' := Aside0.mk H
 clear H
 go_enter Tryd.func22, Tryd.ntmps22
 go_wp2
 go_loopg [5] k (fun kq v5 w' => ∃ (x5_1 : Int), v5 = .int .i64 x5_1 ∧ Aside0 (retargetlaw04_satisfied.l0 kq l0 l1 x5_1 = some r) ∧ Aside0 (kq ≤ k) ∧ Drawn0 w w')
 case atStart => exact ⟨(0), q10_, H', ⟨Nat.le_refl _⟩, by repeat (first | exact Drawn0.refl _ | apply Drawn0.step)⟩
 case round =>
  clear H'
  try clear c1
  try clear c2
  try clear p2
  obtain ⟨x5_1, rfl, HA, HK1, ⟨m1, rfl⟩⟩ := hrel
  cases gk with
  | zero => exact absurd HA.out (by simp [retargetlaw04_satisfied.l0])
  | succ k1 =>
   have H := HA.out
   clear HA
   simp only [retargetlaw04_satisfied.l0] at H
   by_cases c3 : x5_1 < (l0.length : Int)
   ·rw [if_pos c3] at H
    have c3b0 : decide (x5_1 < (l0.length : Int)) = true := decide_eq_true c3
    clear c3
    have H' := Aside0.mk H
    clear H
    go_wp2
    go_loopg [6, 7] k1 (fun kq v6 v7 w' => ∃ (x6_2 : Bool) (x7_2 : Int), v6 = .bool x6_2 ∧ v7 = .int .i64 x7_2 ∧ Aside0 (retargetlaw04_satisfied.l1 kq l0 l1 x5_1 x6_2 x7_2 = some r) ∧ Aside0 (kq ≤ k1) ∧ Drawn0 w w')
    case atStart => exact ⟨(false), (0), q10_, q10_, H', ⟨Nat.le_refl _⟩, by repeat (first | exact Drawn0.refl _ | apply Drawn0.step)⟩
    case round =>
     clear H'
     try clear c1
     try clear c2
     try clear p2
     try clear c3
     try clear c3b0
     try clear p2
     obtain ⟨x6_2, x7_2, rfl, rfl, HA, HK2, ⟨m2, rfl⟩⟩ := hrel
     cases gk with
     | zero => exact absurd HA.out (by simp [retargetlaw04_satisfied.l1])
     | succ k2 =>
      have H := HA.out
      clear HA
      simp only [retargetlaw04_satisfied.l1] at H
      by_cases c4 : 0 ≤ x5_1
      ·rw [if_pos c4] at H
       have c4b0 : decide (0 ≤ x5_1) = true := decide_eq_true c4
       clear c4
       by_cases c5 : x5_1 < (l0.length : Int)
       ·rw [if_pos c5] at H
        have c5b0 : decide (x5_1 < (l0.length : Int)) = true := decide_eq_true c5
        clear c5
        by_cases c6 : x7_2 < ((rd_L9 l0 x5_1).length : Int)
        ·rw [if_pos c6] at H
         have c6b0 : decide (x7_2 < ((rd_L9 l0 x5_1).length : Int)) = true := decide_eq_true c6
         clear c6
         by_cases c7 : 0 ≤ x7_2
         ·rw [if_pos c7] at H
          have c7b0 : decide (0 ≤ x7_2) = true := decide_eq_true c7
          clear c7
          have HC8 := Aside0.mk H
          clear H
          have p224 : 0 ≤ (x5_1 : Int) := of_decide_eq_true q2_
          have q224 : x5_1 < (l0.length : Int) := of_decide_eq_true q2_
          obtain ⟨ad224, A224_0, c224_0, e224, hx224_0, hl224_0, hi224_0⟩ := at_L9 HR0.out x5_1 p224 q224
          cases e224
          have HR224_0 := Aside0.mk hi224_0
          have HC224_0 := Aside0.mk hl224_0
          clear hi224_0 hl224_0
          replace p224 := eq_true p224
          replace q224 := eq_true q224
          have p225 : 0 ≤ (x5_1 : Int) := of_decide_eq_true q2_
          have q225 : x5_1 < (l0.length : Int) := of_decide_eq_true q2_
          obtain ⟨ad225, A225_0, c225_0, e225, hx225_0, hl225_0, hi225_0⟩ := at_L9 HR0.out x5_1 p225 q225
          obtain rfl : ad224 = ad225 := (by injection e225)
          have HR225_0 := Aside0.mk hi225_0
          have HC225_0 := Aside0.mk hl225_0
          clear hi225_0 hl225_0
          replace p225 := eq_true p225
          replace q225 := eq_true q225
          have ea_ := Option.some.inj (hx224_0.symm.trans hx225_0)
          injection ea_ with ea_ en_ ec_
          subst ea_
          subst ec_
          clear en_
          have p226 : 0 ≤ (x7_2 : Int) := of_decide_eq_true q2_
          have q226 : x7_2 < ((rd_L9 l0 x5_1).length : Int) := of_decide_eq_true q2_
          obtain ⟨ad226, e226, hx226_0⟩ := Kd.at_int HR225_0.out x7_2 p226 q226
          cases e226
          replace p226 := eq_true p226
          replace q226 := eq_true q226
          go_upto_region 9 with (fail)
          go_cut [38] (fun v38 wc => ∃ (kq : Nat) (x38_7 : Bool), v38 = .bool x38_7 ∧ Aside0 (retargetlaw04_satisfied.j2 kq l0 l1 x5_1 x6_2 x7_2 (rd (rd_L9 l0 x5_1) x7_2) x38_7 = some r) ∧ Aside0 (kq ≤ k2) ∧ Drawn0 w wc)
          case first =>
           have H := HC8.out
           clear HC8
           by_cases c9 : (rd (rd_L9 l0 x5_1) x7_2) > 0
           ·rw [if_pos c9] at H
            have c9b0 : decide (0 < (rd (rd_L9 l0 x5_1) x7_2)) = true := decide_eq_true c9
            clear c9
            (first | rw [c9b0] | (simp only [i64_w, i32_w]; rw [c9b0]) | skip)
            have H' := Aside0.mk H
            clear H
            go_wp2
            go_meet
            case rel => exact ⟨_, (decide ((rd (rd_L9 l0 x5_1) x7_2) ≤ (l1.length : Int))), q10_, H', ⟨by have := HK1.out; have := HK2.out; first | omega | exact Nat.le_refl _⟩, by repeat (first | exact Drawn0.refl _ | apply Drawn0.step)⟩
           ·rw [if_neg c9] at H
            have c9b0 : decide (0 < (rd (rd_L9 l0 x5_1) x7_2)) = false := decide_eq_false c9
            clear c9
            (first | rw [c9b0] | (simp only [i64_w, i32_w]; rw [c9b0]) | skip)
            have H' := Aside0.mk H
            clear H
            go_wp2
            go_meet
            case rel => exact ⟨_, (false), q10_, H', ⟨by have := HK1.out; have := HK2.out; first | omega | exact Nat.le_refl _⟩, by repeat (first | exact Drawn0.refl _ | apply Drawn0.step)⟩
          case rest =>
           clear HC8
           try clear c1
           try clear c2
           try clear p2
           try clear q2
           try clear hx2
           try clear c3
           try clear c3b0
           try clear c4
           try clear c4b0
           try clear c5
           try clear c5b0
           try clear c6
           try clear c6b0
           try clear c7
           try clear c7b0
           try clear c9
           try clear c9b0
           try clear hx224_0
           try clear hx225_0
           try clear hx226_0
           try clear p2
           try clear p224
           try clear p225
           try clear p226
           try clear q224
           try clear q225
           try clear q226
           obtain ⟨kq, x38_7, rfl, HA, HJ7, ⟨mc7, rfl⟩⟩ := hcut
           cases kq with
           | zero => exact absurd HA.out (by simp [retargetlaw04_satisfied.j2])
           | succ kj7 =>
            have H := HA.out
            clear HA
            simp only [retargetlaw04_satisfied.j2] at H
            by_cases c10 : x38_7 = true
            ·subst c10
             have H1 : (if x6_2 = true then (if (rd (rd_L9 l0 x5_1) x7_2) < 0 then (if (rd (rd_L9 l0 x5_1) x7_2) ≥ (wrap64 (-(l1.length : Int))) then (retargetlaw04_satisfied.l1 kj7 l0 l1 x5_1 true (wrap64 (x7_2 + 1))) else (retargetlaw04_satisfied.l1 kj7 l0 l1 x5_1 true (wrap64 (x7_2 + 1)))) else (retargetlaw04_satisfied.l1 kj7 l0 l1 x5_1 true (wrap64 (x7_2 + 1)))) else (if 0 ≤ (wrap64 ((rd (rd_L9 l0 x5_1) x7_2) - 1)) then (if (wrap64 ((rd (rd_L9 l0 x5_1) x7_2) - 1)) < (l1.length : Int) then (if (rd (rd_L9 l0 x5_1) x7_2) < 0 then (if (rd (rd_L9 l0 x5_1) x7_2) ≥ (wrap64 (-(l1.length : Int))) then (if rdOf false l1 (wrap64 ((rd (rd_L9 l0 x5_1) x7_2) - 1)) = true then (retargetlaw04_satisfied.l1 kj7 l0 l1 x5_1 true (wrap64 (x7_2 + 1))) else (if 0 ≤ (wrap64 ((wrap64 (-(rd (rd_L9 l0 x5_1) x7_2))) - 1)) then (if (wrap64 ((wrap64 (-(rd (rd_L9 l0 x5_1) x7_2))) - 1)) < (l1.length : Int) then (retargetlaw04_satisfied.l1 kj7 l0 l1 x5_1 (!(rdOf false l1 (wrap64 ((wrap64 (-(rd (rd_L9 l0 x5_1) x7_2))) - 1)))) (wrap64 (x7_2 + 1))) else (none)) else (none))) else (retargetlaw04_satisfied.l1 kj7 l0 l1 x5_1 (rdOf false l1 (wrap64 ((rd (rd_L9 l0 x5_1) x7_2) - 1))) (wrap64 (x7_2 + 1)))) else (retargetlaw04_satisfied.l1 kj7 l0 l1 x5_1 (rdOf false l1 (wrap64 ((rd (rd_L9 l0 x5_1) x7_2) - 1))) (wrap64 (x7_2 + 1)))) else (none)) else (none))) = some r := by rw [if_pos rfl] at H; exact H
             clear H
             have H := H1
             clear H1
             by_cases c11 : x6_2 = true
             ·subst c11
              have H1 : (if (rd (rd_L9 l0 x5_1) x7_2) < 0 then (if (rd (rd_L9 l0 x5_1) x7_2) ≥ (wrap64 (-(l1.length : Int))) then (retargetlaw04_satisfied.l1 kj7 l0 l1 x5_1 true (wrap64 (x7_2 + 1))) else (retargetlaw04_satisfied.l1 kj7 l0 l1 x5_1 true (wrap64 (x7_2 + 1)))) else (retargetlaw04_satisfied.l1 kj7 l0 l1 x5_1 true (wrap64 (x7_2 + 1)))) = some r := by rw [if_pos rfl] at H; exact H
              clear H
              have H := H1
              clear H1
              by_cases c12 : (rd (rd_L9 l0 x5_1) x7_2) < 0
              ·rw [if_pos c12] at H
               have c12b0 : decide ((rd (rd_L9 l0 x5_1) x7_2) < 0) = true := decide_eq_true c12
               clear c12
               by_cases c13 : (rd (rd_L9 l0 x5_1) x7_2) ≥ (wrap64 (-(l1.length : Int)))
               ·rw [if_pos c13] at H
                have c13b0 : decide ((wrap64 (-(l1.length : Int))) ≤ (rd (rd_L9 l0 x5_1) x7_2)) = true := decide_eq_true c13
                clear c13
                have H' := Aside0.mk H
                clear H
                go_wp2
                go_roundg kj7
                case measure => have := HK1.out; have := HK2.out; have := HJ7.out; omega
                case rel => exact ⟨(true), (wrap64 (x7_2 + 1)), q10_, q10_, H', ⟨by have := HK1.out; have := HK2.out; have := HJ7.out; omega⟩, by repeat (first | exact Drawn0.refl _ | apply Drawn0.step)⟩
               ·rw [if_neg c13] at H
                have c13b0 : decide ((wrap64 (-(l1.length : Int))) ≤ (rd (rd_L9 l0 x5_1) x7_2)) = false := decide_eq_false c13
                clear c13
                have H' := Aside0.mk H
                clear H
                go_wp2
                go_roundg kj7
                case measure => have := HK1.out; have := HK2.out; have := HJ7.out; omega
                case rel => exact ⟨(true), (wrap64 (x7_2 + 1)), q10_, q10_, H', ⟨by have := HK1.out; have := HK2.out; have := HJ7.out; omega⟩, by repeat (first | exact Drawn0.refl _ | apply Drawn0.step)⟩
              ·rw [if_neg c12] at H
               have c12b0 : decide ((rd (rd_L9 l0 x5_1) x7_2) < 0) = false := decide_eq_false c12
               clear c12
               have H' := Aside0.mk H
               clear H
               go_wp2
               go_roundg kj7
               case measure => have := HK1.out; have := HK2.out; have := HJ7.out; omega
               case rel => exact ⟨(true), (wrap64 (x7_2 + 1)), q10_, q10_, H', ⟨by have := HK1.out; have := HK2.out; have := HJ7.out; omega⟩, by repeat (first | exact Drawn0.refl _ | apply Drawn0.step)⟩
             ·replace c11 := Bool.eq_false_iff.mpr c11
              subst c11
              have H1 : (if 0 ≤ (wrap64 ((rd (rd_L9 l0 x5_1) x7_2) - 1)) then (if (wrap64 ((rd (rd_L9 l0 x5_1) x7_2) - 1)) < (l1.length : Int) then (if (rd (rd_L9 l0 x5_1) x7_2) < 0 then (if (rd (rd_L9 l0 x5_1) x7_2) ≥ (wrap64 (-(l1.length : Int))) then (if rdOf false l1 (wrap64 ((rd (rd_L9 l0 x5_1) x7_2) - 1)) = true then (retargetlaw04_satisfied.l1 kj7 l0 l1 x5_1 true (wrap64 (x7_2 + 1))) else (if 0 ≤ (wrap64 ((wrap64 (-(rd (rd_L9 l0 x5_1) x7_2))) - 1)) then (if (wrap64 ((wrap64 (-(rd (rd_L9 l0 x5_1) x7_2))) - 1)) < (l1.length : Int) then (retargetlaw04_satisfied.l1 kj7 l0 l1 x5_1 (!(rdOf false l1 (wrap64 ((wrap64 (-(rd (rd_L9 l0 x5_1) x7_2))) - 1)))) (wrap64 (x7_2 + 1))) else (none)) else (none))) else (retargetlaw04_satisfied.l1 kj7 l0 l1 x5_1 (rdOf false l1 (wrap64 ((rd (rd_L9 l0 x5_1) x7_2) - 1))) (wrap64 (x7_2 + 1)))) else (retargetlaw04_satisfied.l1 kj7 l0 l1 x5_1 (rdOf false l1 (wrap64 ((rd (rd_L9 l0 x5_1) x7_2) - 1))) (wrap64 (x7_2 + 1)))) else (none)) else (none)) = some r := by rw [if_neg (show ¬ (false = true) by decide)] at H; exact H
              clear H
              have H := H1
              clear H1
              obtain ⟨ji14, hji14⟩ : ∃ j_ : Int, (wrap64 ((rd (rd_L9 l0 x5_1) x7_2) - 1)) = j_ := ⟨_, rfl⟩
              replace H : (if 0 ≤ (ji14) then (if (ji14) < (l1.length : Int) then (if (rd (rd_L9 l0 x5_1) x7_2) < 0 then (if (rd (rd_L9 l0 x5_1) x7_2) ≥ (wrap64 (-(l1.length : Int))) then (if rdOf false l1 (ji14) = true then (retargetlaw04_satisfied.l1 kj7 l0 l1 x5_1 true (wrap64 (x7_2 + 1))) else (if 0 ≤ (wrap64 ((wrap64 (-(rd (rd_L9 l0 x5_1) x7_2))) - 1)) then (if (wrap64 ((wrap64 (-(rd (rd_L9 l0 x5_1) x7_2))) - 1)) < (l1.length : Int) then (retargetlaw04_satisfied.l1 kj7 l0 l1 x5_1 (!(rdOf false l1 (wrap64 ((wrap64 (-(rd (rd_L9 l0 x5_1) x7_2))) - 1)))) (wrap64 (x7_2 + 1))) else (none)) else (none))) else (retargetlaw04_satisfied.l1 kj7 l0 l1 x5_1 (rdOf false l1 (ji14)) (wrap64 (x7_2 + 1)))) else (retargetlaw04_satisfied.l1 kj7 l0 l1 x5_1 (rdOf false l1 (ji14)) (wrap64 (x7_2 + 1)))) else (none)) else (none)) = some r := by first | (rw [hji14] at H; exact H) | (simp only [hji14] at H ⊢; exact H)
              have hji14w : (IntKind.i64.wrap ((rd (rd_L9 l0 x5_1) x7_2) - 1)) = ji14 := (i64_w _).trans hji14
              by_cases c15 : 0 ≤ (ji14)
              ·rw [if_pos c15] at H
               have c15b0 : decide (0 ≤ (ji14)) = true := decide_eq_true c15
               clear c15
               by_cases c16 : (ji14) < (l1.length : Int)
               ·rw [if_pos c16] at H
                have c16b0 : decide ((ji14) < (l1.length : Int)) = true := decide_eq_true c16
                clear c16
                by_cases c17 : (rd (rd_L9 l0 x5_1) x7_2) < 0
                ·rw [if_pos c17] at H
                 have c17b0 : decide ((rd (rd_L9 l0 x5_1) x7_2) < 0) = true := decide_eq_true c17
                 clear c17
                 by_cases c18 : (rd (rd_L9 l0 x5_1) x7_2) ≥ (wrap64 (-(l1.length : Int)))
                 ·rw [if_pos c18] at H
                  have c18b0 : decide ((wrap64 (-(l1.length : Int))) ≤ (rd (rd_L9 l0 x5_1) x7_2)) = true := decide_eq_true c18
                  clear c18
                  obtain ⟨bq19, hbq19⟩ : ∃ b_ : Bool, b_ = (rdOf false l1 (ji14)) := ⟨_, rfl⟩
                  replace H : (if bq19 = true then (retargetlaw04_satisfied.l1 kj7 l0 l1 x5_1 true (wrap64 (x7_2 + 1))) else (if 0 ≤ (wrap64 ((wrap64 (-(rd (rd_L9 l0 x5_1) x7_2))) - 1)) then (if (wrap64 ((wrap64 (-(rd (rd_L9 l0 x5_1) x7_2))) - 1)) < (l1.length : Int) then (retargetlaw04_satisfied.l1 kj7 l0 l1 x5_1 (!(rdOf false l1 (wrap64 ((wrap64 (-(rd (rd_L9 l0 x5_1) x7_2))) - 1)))) (wrap64 (x7_2 + 1))) else (none)) else (none))) = some r := by rw [← hbq19] at H; exact H
                  have Nbq19 := Aside0.mk hbq19
                  clear hbq19
                  by_cases c20 : bq19 = true
                  ·subst c20
                   have H1 : (retargetlaw04_satisfied.l1 kj7 l0 l1 x5_1 true (wrap64 (x7_2 + 1))) = some r := by rw [if_pos rfl] at H; exact H
                   clear H
                   have H := H1
                   clear H1
                   have H' := Aside0.mk H
                   clear H
                   have p227 : 0 ≤ ((ji14) : Int) := of_decide_eq_true q2_
                   have q227 : (ji14) < (l1.length : Int) := of_decide_eq_true q2_
                   obtain ⟨ad227, e227, hx227_0⟩ := Kd.at_bool HR1.out (ji14) p227 q227
                   (try rw [← Nbq19.out] at hx227_0)
                   cases e227
                   replace p227 := eq_true p227
                   replace q227 := eq_true q227
                   go_wp2
                   go_roundg kj7
                   case measure => have := HK1.out; have := HK2.out; have := HJ7.out; omega
                   case rel => exact ⟨(true), (wrap64 (x7_2 + 1)), q10_, q10_, H', ⟨by have := HK1.out; have := HK2.out; have := HJ7.out; omega⟩, by repeat (first | exact Drawn0.refl _ | apply Drawn0.step)⟩
                  ·replace c20 := Bool.eq_false_iff.mpr c20
                   subst c20
                   have H1 : (if 0 ≤ (wrap64 ((wrap64 (-(rd (rd_L9 l0 x5_1) x7_2))) - 1)) then (if (wrap64 ((wrap64 (-(rd (rd_L9 l0 x5_1) x7_2))) - 1)) < (l1.length : Int) then (retargetlaw04_satisfied.l1 kj7 l0 l1 x5_1 (!(rdOf false l1 (wrap64 ((wrap64 (-(rd (rd_L9 l0 x5_1) x7_2))) - 1)))) (wrap64 (x7_2 + 1))) else (none)) else (none)) = some r := by rw [if_neg (show ¬ (false = true) by decide)] at H; exact H
                   clear H
                   have H := H1
                   clear H1
                   obtain ⟨ji21, hji21⟩ : ∃ j_ : Int, (wrap64 ((wrap64 (-(rd (rd_L9 l0 x5_1) x7_2))) - 1)) = j_ := ⟨_, rfl⟩
                   replace H : (if 0 ≤ (ji21) then (if (ji21) < (l1.length : Int) then (retargetlaw04_satisfied.l1 kj7 l0 l1 x5_1 (!(rdOf false l1 (ji21))) (wrap64 (x7_2 + 1))) else (none)) else (none)) = some r := by first | (rw [hji21] at H; exact H) | (simp only [hji21] at H ⊢; exact H)
                   have hji21w : (IntKind.i64.wrap ((wrap64 (-(rd (rd_L9 l0 x5_1) x7_2))) - 1)) = ji21 := (i64_w _).trans hji21
                   by_cases c22 : 0 ≤ (ji21)
                   ·rw [if_pos c22] at H
                    have c22b0 : decide (0 ≤ (ji21)) = true := decide_eq_true c22
                    clear c22
                    by_cases c23 : (ji21) < (l1.length : Int)
                    ·rw [if_pos c23] at H
                     have c23b0 : decide ((ji21) < (l1.length : Int)) = true := decide_eq_true c23
                     clear c23
                     have H' := Aside0.mk H
                     clear H
                     have p227 : 0 ≤ ((ji14) : Int) := of_decide_eq_true q2_
                     have q227 : (ji14) < (l1.length : Int) := of_decide_eq_true q2_
                     obtain ⟨ad227, e227, hx227_0⟩ := Kd.at_bool HR1.out (ji14) p227 q227
                     (try rw [← Nbq19.out] at hx227_0)
                     cases e227
                     replace p227 := eq_true p227
                     replace q227 := eq_true q227
                     have p228 : 0 ≤ ((ji21) : Int) := of_decide_eq_true q2_
                     have q228 : (ji21) < (l1.length : Int) := of_decide_eq_true q2_
                     obtain ⟨ad228, e228, hx228_0⟩ := Kd.at_bool HR1.out (ji21) p228 q228
                     (try rw [← Nbq19.out] at hx228_0)
                     obtain rfl : ad227 = ad228 := (by injection e228)
                     replace p228 := eq_true p228
                     replace q228 := eq_true q228
                     go_wp2
                     go_roundg kj7
                     case measure => have := HK1.out; have := HK2.out; have := HJ7.out; omega
                     case rel => exact ⟨(!(rdOf false l1 (ji21))), (wrap64 (x7_2 + 1)), (by first | rfl | (simp; done) | (simp only [← hji21] <;> (first | rfl | simp)) | (simp [*]; done)), q10_, H', ⟨by have := HK1.out; have := HK2.out; have := HJ7.out; omega⟩, by repeat (first | exact Drawn0.refl _ | apply Drawn0.step)⟩
                    ·rw [if_neg c23] at H
                     exact absurd H (by simp)
                   ·rw [if_neg c22] at H
                    exact absurd H (by simp)
                 ·rw [if_neg c18] at H
                  have c18b0 : decide ((wrap64 (-(l1.length : Int))) ≤ (rd (rd_L9 l0 x5_1) x7_2)) = false := decide_eq_false c18
                  clear c18
                  have H' := Aside0.mk H
                  clear H
                  have p227 : 0 ≤ ((ji14) : Int) := of_decide_eq_true q2_
                  have q227 : (ji14) < (l1.length : Int) := of_decide_eq_true q2_
                  obtain ⟨ad227, e227, hx227_0⟩ := Kd.at_bool HR1.out (ji14) p227 q227
                  cases e227
                  replace p227 := eq_true p227
                  replace q227 := eq_true q227
                  go_wp2
                  go_roundg kj7
                  case measure => have := HK1.out; have := HK2.out; have := HJ7.out; omega
                  case rel => exact ⟨(rdOf false l1 (ji14)), (wrap64 (x7_2 + 1)), (by first | rfl | (simp; done) | (simp only [← hji14] <;> (first | rfl | simp)) | (simp [*]; done)), q10_, H', ⟨by have := HK1.out; have := HK2.out; have := HJ7.out; omega⟩, by repeat (first | exact Drawn0.refl _ | apply Drawn0.step)⟩
                ·rw [if_neg c17] at H
                 have c17b0 : decide ((rd (rd_L9 l0 x5_1) x7_2) < 0) = false := decide_eq_false c17
                 clear c17
                 have H' := Aside0.mk H
                 clear H
                 have p227 : 0 ≤ ((ji14) : Int) := of_decide_eq_true q2_
                 have q227 : (ji14) < (l1.length : Int) := of_decide_eq_true q2_
                 obtain ⟨ad227, e227, hx227_0⟩ := Kd.at_bool HR1.out (ji14) p227 q227
                 cases e227
                 replace p227 := eq_true p227
                 replace q227 := eq_true q227
                 go_wp2
                 go_roundg kj7
                 case measure => have := HK1.out; have := HK2.out; have := HJ7.out; omega
                 case rel => exact ⟨(rdOf false l1 (ji14)), (wrap64 (x7_2 + 1)), (by first | rfl | (simp; done) | (simp only [← hji14] <;> (first | rfl | simp)) | (simp [*]; done)), q10_, H', ⟨by have := HK1.out; have := HK2.out; have := HJ7.out; omega⟩, by repeat (first | exact Drawn0.refl _ | apply Drawn0.step)⟩
               ·rw [if_neg c16] at H
                exact absurd H (by simp)
              ·rw [if_neg c15] at H
               exact absurd H (by simp)
            ·replace c10 := Bool.eq_false_iff.mpr c10
             subst c10
             have H1 : (if (rd (rd_L9 l0 x5_1) x7_2) < 0 then (if (rd (rd_L9 l0 x5_1) x7_2) ≥ (wrap64 (-(l1.length : Int))) then (if x6_2 = true then (retargetlaw04_satisfied.l1 kj7 l0 l1 x5_1 true (wrap64 (x7_2 + 1))) else (if 0 ≤ (wrap64 ((wrap64 (-(rd (rd_L9 l0 x5_1) x7_2))) - 1)) then (if (wrap64 ((wrap64 (-(rd (rd_L9 l0 x5_1) x7_2))) - 1)) < (l1.length : Int) then (retargetlaw04_satisfied.l1 kj7 l0 l1 x5_1 (!(rdOf false l1 (wrap64 ((wrap64 (-(rd (rd_L9 l0 x5_1) x7_2))) - 1)))) (wrap64 (x7_2 + 1))) else (none)) else (none))) else (retargetlaw04_satisfied.l1 kj7 l0 l1 x5_1 x6_2 (wrap64 (x7_2 + 1)))) else (retargetlaw04_satisfied.l1 kj7 l0 l1 x5_1 x6_2 (wrap64 (x7_2 + 1)))) = some r := by rw [if_neg (show ¬ (false = true) by decide)] at H; exact H
             clear H
             have H := H1
             clear H1
             by_cases c24 : (rd (rd_L9 l0 x5_1) x7_2) < 0
             ·rw [if_pos c24] at H
              have c24b0 : decide ((rd (rd_L9 l0 x5_1) x7_2) < 0) = true := decide_eq_true c24
              clear c24
              by_cases c25 : (rd (rd_L9 l0 x5_1) x7_2) ≥ (wrap64 (-(l1.length : Int)))
              ·rw [if_pos c25] at H
               have c25b0 : decide ((wrap64 (-(l1.length : Int))) ≤ (rd (rd_L9 l0 x5_1) x7_2)) = true := decide_eq_true c25
               clear c25
               by_cases c26 : x6_2 = true
               ·subst c26
                have H1 : (retargetlaw04_satisfied.l1 kj7 l0 l1 x5_1 true (wrap64 (x7_2 + 1))) = some r := by rw [if_pos rfl] at H; exact H
                clear H
                have H := H1
                clear H1
                have H' := Aside0.mk H
                clear H
                go_wp2
                go_roundg kj7
                case measure => have := HK1.out; have := HK2.out; have := HJ7.out; omega
                case rel => exact ⟨(true), (wrap64 (x7_2 + 1)), q10_, q10_, H', ⟨by have := HK1.out; have := HK2.out; have := HJ7.out; omega⟩, by repeat (first | exact Drawn0.refl _ | apply Drawn0.step)⟩
               ·replace c26 := Bool.eq_false_iff.mpr c26
                subst c26
                have H1 : (if 0 ≤ (wrap64 ((wrap64 (-(rd (rd_L9 l0 x5_1) x7_2))) - 1)) then (if (wrap64 ((wrap64 (-(rd (rd_L9 l0 x5_1) x7_2))) - 1)) < (l1.length : Int) then (retargetlaw04_satisfied.l1 kj7 l0 l1 x5_1 (!(rdOf false l1 (wrap64 ((wrap64 (-(rd (rd_L9 l0 x5_1) x7_2))) - 1)))) (wrap64 (x7_2 + 1))) else (none)) else (none)) = some r := by rw [if_neg (show ¬ (false = true) by decide)] at H; exact H
                clear H
                have H := H1
                clear H1
                obtain ⟨ji27, hji27⟩ : ∃ j_ : Int, (wrap64 ((wrap64 (-(rd (rd_L9 l0 x5_1) x7_2))) - 1)) = j_ := ⟨_, rfl⟩
                replace H : (if 0 ≤ (ji27) then (if (ji27) < (l1.length : Int) then (retargetlaw04_satisfied.l1 kj7 l0 l1 x5_1 (!(rdOf false l1 (ji27))) (wrap64 (x7_2 + 1))) else (none)) else (none)) = some r := by first | (rw [hji27] at H; exact H) | (simp only [hji27] at H ⊢; exact H)
                have hji27w : (IntKind.i64.wrap ((wrap64 (-(rd (rd_L9 l0 x5_1) x7_2))) - 1)) = ji27 := (i64_w _).trans hji27
                by_cases c28 : 0 ≤ (ji27)
                ·rw [if_pos c28] at H
                 have c28b0 : decide (0 ≤ (ji27)) = true := decide_eq_true c28
                 clear c28
                 by_cases c29 : (ji27) < (l1.length : Int)
                 ·rw [if_pos c29] at H
                  have c29b0 : decide ((ji27) < (l1.length : Int)) = true := decide_eq_true c29
                  clear c29
                  have H' := Aside0.mk H
                  clear H
                  have p229 : 0 ≤ ((ji27) : Int) := of_decide_eq_true q2_
                  have q229 : (ji27) < (l1.length : Int) := of_decide_eq_true q2_
                  obtain ⟨ad229, e229, hx229_0⟩ := Kd.at_bool HR1.out (ji27) p229 q229
                  cases e229
                  replace p229 := eq_true p229
                  replace q229 := eq_true q229
                  go_wp2
                  go_roundg kj7
                  case measure => have := HK1.out; have := HK2.out; have := HJ7.out; omega
                  case rel => exact ⟨(!(rdOf false l1 (ji27))), (wrap64 (x7_2 + 1)), (by first | rfl | (simp; done) | (simp only [← hji27] <;> (first | rfl | simp)) | (simp [*]; done)), q10_, H', ⟨by have := HK1.out; have := HK2.out; have := HJ7.out; omega⟩, by repeat (first | exact Drawn0.refl _ | apply Drawn0.step)⟩
                 ·rw [if_neg c29] at H
                  exact absurd H (by simp)
                ·rw [if_neg c28] at H
                 exact absurd H (by simp)
              ·rw [if_neg c25] at H
               have c25b0 : decide ((wrap64 (-(l1.length : Int))) ≤ (rd (rd_L9 l0 x5_1) x7_2)) = false := decide_eq_false c25
               clear c25
               have H' := Aside0.mk H
               clear H
               go_wp2
               go_roundg kj7
               case measure => have := HK1.out; have := HK2.out; have := HJ7.out; omega
               case rel => exact ⟨(x6_2), (wrap64 (x7_2 + 1)), q10_, q10_, H', ⟨by have := HK1.out; have := HK2.out; have := HJ7.out; omega⟩, by repeat (first | exact Drawn0.refl _ | apply Drawn0.step)⟩
             ·rw [if_neg c24] at H
              have c24b0 : decide ((rd (rd_L9 l0 x5_1) x7_2) < 0) = false := decide_eq_false c24
              clear c24
              have H' := Aside0.mk H
              clear H
              go_wp2
              go_roundg kj7
              case measure => have := HK1.out; have := HK2.out; have := HJ7.out; omega
              case rel => exact ⟨(x6_2), (wrap64 (x7_2 + 1)), q10_, q10_, H', ⟨by have := HK1.out; have := HK2.out; have := HJ7.out; omega⟩, by repeat (first | exact Drawn0.refl _ | apply Drawn0.step)⟩
         ·rw [if_neg c7] at H
          exact absurd H (by simp)
        ·rw [if_neg c6] at H
         have c6b0 : decide (x7_2 < ((rd_L9 l0 x5_1).length : Int)) = false := decide_eq_false c6
         clear c6
         by_cases c30 : x6_2 = true
         ·subst c30
          have H1 : (retargetlaw04_satisfied.l0 k2 l0 l1 (wrap64 (x5_1 + 1))) = some r := by rw [if_pos rfl] at H; exact H
          clear H
          have H := H1
          clear H1
          have H' := Aside0.mk H
          clear H
          have p224 : 0 ≤ (x5_1 : Int) := of_decide_eq_true q2_
          have q224 : x5_1 < (l0.length : Int) := of_decide_eq_true q2_
          obtain ⟨ad224, A224_0, c224_0, e224, hx224_0, hl224_0, hi224_0⟩ := at_L9 HR0.out x5_1 p224 q224
          cases e224
          have HR224_0 := Aside0.mk hi224_0
          have HC224_0 := Aside0.mk hl224_0
          clear hi224_0 hl224_0
          replace p224 := eq_true p224
          replace q224 := eq_true q224
          go_wp2
          go_roundg k2
          case measure => have := HK1.out; have := HK2.out; omega
          case rel => exact ⟨(wrap64 (x5_1 + 1)), q10_, H', ⟨by have := HK1.out; have := HK2.out; omega⟩, by repeat (first | exact Drawn0.refl _ | apply Drawn0.step)⟩
         ·replace c30 := Bool.eq_false_iff.mpr c30
          subst c30
          have H1 : (some false) = some r := by rw [if_neg (show ¬ (false = true) by decide)] at H; exact H
          clear H
          have H := H1
          clear H1
          obtain rfl := Option.some.inj H
          have p224 : 0 ≤ (x5_1 : Int) := of_decide_eq_true q2_
          have q224 : x5_1 < (l0.length : Int) := of_decide_eq_true q2_
          obtain ⟨ad224, A224_0, c224_0, e224, hx224_0, hl224_0, hi224_0⟩ := at_L9 HR0.out x5_1 p224 q224
          cases e224
          have HR224_0 := Aside0.mk hi224_0
          have HC224_0 := Aside0.mk hl224_0
          clear hi224_0 hl224_0
          replace p224 := eq_true p224
          replace q224 := eq_true q224
          go_wp2
          go_ret
          exact ⟨by first | rfl | (simp; done) | (simp [*]; done), by repeat (first | exact Drawn0.refl _ | apply Drawn0.step)⟩
       ·rw [if_neg c5] at H
        exact absurd H (by simp)
      ·rw [if_neg c4] at H
       exact absurd H (by simp)
   ·rw [if_neg c3] at H
    have c3b0 : decide (x5_1 < (l0.length : Int)) = false := decide_eq_false c3
    clear c3
    obtain rfl := Option.some.inj H
    go_wp2
    go_ret
    exact ⟨by first | rfl | (simp; done) | (simp [*]; done), by repeat (first | exact Drawn0.refl _ | apply Drawn0.step)⟩

end Go.Proofs.YtjopdafckhkmmaaDoor.MBS
