/- interpret.Store, by hand: what the driver prints where Clone, Delete and Insert are told as functions (wip/tpl/hand/Probe.lean), the calls of Delete and Insert turned to their contracts in place (CellsIns). No condition. -/
import Derived.Test.YtpogkinegkfokaaCISHInterpretStoresCellsIns
import Derived.Test.YtpogkinegkfokaaCISMInterpretStoresx2
set_option linter.unusedVariables false
set_option linter.unusedSimpArgs false
namespace Go.Proofs.Ytpogkinegkfokaa.MInterpretStores
open Go.Proofs.Ytpogkinegkfokaa.Zed Go.RowKit Go.Proofs.YtpogkinegkfokaaW.PrintWords Go.Proofs.YtpogkinegkfokaaW.PrintLast Go.Proofs.YtpogkinegkfokaaW.PrintMore
attribute [local go_sem] max2_int min2_int max_two min_two max_three min_three max_four min_four
mutual
def interpret_Store.j0 : Nat → List (S36) → Int → Int → Int → Bool → Option ((List (S36)) × Int)
  | 0, _, _, _, _, _ => none
  | k + 1, x0, x1, x2, x3, x35 => if x35 = true then (some (([] : List (S36)), 2)) else ((api_Cell_13.f x0).bind fun t127 => (interpret_Store.l0 k x1 x2 x3 t127 0))
def interpret_Store.l0 : Nat → Int → Int → Int → List (S36) → Int → Option ((List (S36)) × Int)
  | 0, _, _, _, _, _ => none
  | k + 1, x1, x2, x3, x10, x11 => if x11 < x2 then (if 0 ≤ x11 then ((api_Cell_uint64.f k x10 (Go.bits .and .u64 (IntKind.u64.wrap (x1 + (IntKind.u64.wrap (wrap64 (Int.tdiv x11 8))))) 4294967295)).bind fun bt130 => (if bt130.2 = true then (interpret_Store.j2 k x1 x2 x3 x10 x11 (Go.bits .and .u64 (IntKind.u64.wrap (x1 + (IntKind.u64.wrap (wrap64 (Int.tdiv x11 8))))) 4294967295) ((shr .u64 x3 x11) % 256) bt130.1 bt130.2 (((shr .u64 x3 x11) % 256) == 0)) else (interpret_Store.j2 k x1 x2 x3 x10 x11 (Go.bits .and .u64 (IntKind.u64.wrap (x1 + (IntKind.u64.wrap (wrap64 (Int.tdiv x11 8))))) 4294967295) ((shr .u64 x3 x11) % 256) bt130.1 bt130.2 false))) else (none)) else (if (x10.length : Int) > 4096 then (some (([] : List (S36)), 20)) else (some (x10, 0)))
def interpret_Store.j2 : Nat → Int → Int → Int → List (S36) → Int → Int → Int → Int → Bool → Bool → Option ((List (S36)) × Int)
  | 0, _, _, _, _, _, _, _, _, _, _ => none
  | k + 1, x1, x2, x3, x10, x11, x12, x13, x14, x15, x59 => if x59 = true then ((api_Cell_16.f x10 x14 (wrap64 (x14 + 1))).bind fun t132 => (interpret_Store.l0 k x1 x2 x3 t132 (wrap64 (x11 + 8)))) else (if x15 = true then (if 0 ≤ x14 then (if x14 < (x10.length : Int) then (interpret_Store.l0 k x1 x2 x3 (x10.set (x14 : Int).toNat (⟨(rd_T36 x10 x14).f0, x13⟩ : S36)) (wrap64 (x11 + 8))) else (none)) else (none)) else (if x13 = 0 then (interpret_Store.l0 k x1 x2 x3 x10 (wrap64 (x11 + 8))) else ((api_Cell_17.f x10 x14 (([(⟨x12, x13⟩ : S36)] : List (S36)))).bind fun t139 => (interpret_Store.l0 k x1 x2 x3 t139 (wrap64 (x11 + 8))))))
end
def interpret_Store.f (k : Nat) (l0 : List (S36)) (a1 : Int) (a2 : Int) (a3 : Int) : Option ((List (S36)) × Int) := (interpret_memory.f k l0).bind fun t120 => (if t120 = true then ((interpret_below.f a1 32).bind fun t121 => (if t121 = true then ((slices_Contains_int_int.f k (([8, 16, 32, 64] : List Int)) a2).bind fun t125 => (if t125 = true then ((interpret_below.f a3 a2).bind fun t126 => (interpret_Store.j0 k l0 a1 a2 a3 (!t126))) else (interpret_Store.j0 k l0 a1 a2 a3 true))) else (interpret_Store.j0 k l0 a1 a2 a3 true))) else (interpret_Store.j0 k l0 a1 a2 a3 true))
theorem interpret_Store.mono_l : ∀ k, (∀ y0 y1 y2 y3 y4, LeO (interpret_Store.j0 k y0 y1 y2 y3 y4) (interpret_Store.j0 (k + 1) y0 y1 y2 y3 y4)) ∧ (∀ y0 y1 y2 y3 y4, LeO (interpret_Store.l0 k y0 y1 y2 y3 y4) (interpret_Store.l0 (k + 1) y0 y1 y2 y3 y4)) ∧ (∀ y0 y1 y2 y3 y4 y5 y6 y7 y8 y9, LeO (interpret_Store.j2 k y0 y1 y2 y3 y4 y5 y6 y7 y8 y9) (interpret_Store.j2 (k + 1) y0 y1 y2 y3 y4 y5 y6 y7 y8 y9))
  | 0 => ⟨fun _ _ _ _ _ r h => by simp [interpret_Store.j0] at h, fun _ _ _ _ _ r h => by simp [interpret_Store.l0] at h, fun _ _ _ _ _ _ _ _ _ _ r h => by simp [interpret_Store.j2] at h⟩
  | k + 1 => by
    obtain ⟨ih0, ih1, ih2⟩ := interpret_Store.mono_l k
    refine ⟨?_, ?_, ?_⟩
    · intro y0 y1 y2 y3 y4
      unfold interpret_Store.j0
      repeat' first
      | (with_reducible exact ih0 _ _ _ _ _)
      | (with_reducible exact ih1 _ _ _ _ _)
      | (with_reducible exact ih2 _ _ _ _ _ _ _ _ _ _)
      | (with_reducible exact api_Cell_uint64.mono _ _ _)
      | (with_reducible exact interpret_memory.mono _ _)
      | (with_reducible exact slices_Contains_int_int.mono _ _ _)
      | (with_reducible exact LeO.refl _)
      | (with_reducible exact LeO.none _)
      | (with_reducible refine LeO.ite ?_ ?_)
      | (with_reducible refine LeO.bind ?_ (fun _ => ?_))
      | exact ih0 _ _ _ _ _
      | exact ih1 _ _ _ _ _
      | exact ih2 _ _ _ _ _ _ _ _ _ _
      | exact api_Cell_uint64.mono _ _ _
      | exact interpret_memory.mono _ _
      | exact slices_Contains_int_int.mono _ _ _
      | exact LeO.none _
      | refine LeO.ite ?_ ?_
      | refine LeO.bind ?_ (fun _ => ?_)
    · intro y0 y1 y2 y3 y4
      unfold interpret_Store.l0
      repeat' first
      | (with_reducible exact ih0 _ _ _ _ _)
      | (with_reducible exact ih1 _ _ _ _ _)
      | (with_reducible exact ih2 _ _ _ _ _ _ _ _ _ _)
      | (with_reducible exact api_Cell_uint64.mono _ _ _)
      | (with_reducible exact interpret_memory.mono _ _)
      | (with_reducible exact slices_Contains_int_int.mono _ _ _)
      | (with_reducible exact LeO.refl _)
      | (with_reducible exact LeO.none _)
      | (with_reducible refine LeO.ite ?_ ?_)
      | (with_reducible refine LeO.bind ?_ (fun _ => ?_))
      | exact ih0 _ _ _ _ _
      | exact ih1 _ _ _ _ _
      | exact ih2 _ _ _ _ _ _ _ _ _ _
      | exact api_Cell_uint64.mono _ _ _
      | exact interpret_memory.mono _ _
      | exact slices_Contains_int_int.mono _ _ _
      | exact LeO.none _
      | refine LeO.ite ?_ ?_
      | refine LeO.bind ?_ (fun _ => ?_)
    · intro y0 y1 y2 y3 y4 y5 y6 y7 y8 y9
      unfold interpret_Store.j2
      repeat' first
      | (with_reducible exact ih0 _ _ _ _ _)
      | (with_reducible exact ih1 _ _ _ _ _)
      | (with_reducible exact ih2 _ _ _ _ _ _ _ _ _ _)
      | (with_reducible exact api_Cell_uint64.mono _ _ _)
      | (with_reducible exact interpret_memory.mono _ _)
      | (with_reducible exact slices_Contains_int_int.mono _ _ _)
      | (with_reducible exact LeO.refl _)
      | (with_reducible exact LeO.none _)
      | (with_reducible refine LeO.ite ?_ ?_)
      | (with_reducible refine LeO.bind ?_ (fun _ => ?_))
      | exact ih0 _ _ _ _ _
      | exact ih1 _ _ _ _ _
      | exact ih2 _ _ _ _ _ _ _ _ _ _
      | exact api_Cell_uint64.mono _ _ _
      | exact interpret_memory.mono _ _
      | exact slices_Contains_int_int.mono _ _ _
      | exact LeO.none _
      | refine LeO.ite ?_ ?_
      | refine LeO.bind ?_ (fun _ => ?_)
theorem interpret_Store.mono : ∀ a0 a1 a2 a3 k, LeO (interpret_Store.f k a0 a1 a2 a3) (interpret_Store.f (k + 1) a0 a1 a2 a3) := by
  intro a0 a1 a2 a3 k
  obtain ⟨ih0, ih1, ih2⟩ := interpret_Store.mono_l k
  unfold interpret_Store.f
  repeat' first
      | (with_reducible exact ih0 _ _ _ _ _)
      | (with_reducible exact ih1 _ _ _ _ _)
      | (with_reducible exact ih2 _ _ _ _ _ _ _ _ _ _)
      | (with_reducible exact api_Cell_uint64.mono _ _ _)
      | (with_reducible exact interpret_memory.mono _ _)
      | (with_reducible exact slices_Contains_int_int.mono _ _ _)
      | (with_reducible exact LeO.refl _)
      | (with_reducible exact LeO.none _)
      | (with_reducible refine LeO.ite ?_ ?_)
      | (with_reducible refine LeO.bind ?_ (fun _ => ?_))
      | exact ih0 _ _ _ _ _
      | exact ih1 _ _ _ _ _
      | exact ih2 _ _ _ _ _ _ _ _ _ _
      | exact api_Cell_uint64.mono _ _ _
      | exact interpret_memory.mono _ _
      | exact slices_Contains_int_int.mono _ _ _
      | exact LeO.none _
      | refine LeO.ite ?_ ?_
      | refine LeO.bind ?_ (fun _ => ?_)
set_option maxHeartbeats 8000000 in
set_option maxRecDepth 100000 in
theorem interpret_Store.calls (k : Nat) (A0 : Option Addr) (c0 : Nat) (l0 : List (S36)) (a1 : Int) (a2 : Int) (a3 : Int) (r1 : List (S36)) (r2 : Int) (w : World) (hr0 : Kd.C k36 w A0 l0.length l0) (hc0 : l0.length ≤ c0) (h : interpret_Store.f k l0 a1 a2 a3 = some (r1, r2)) :
    Calls Try.prog 5 #[.slice A0 l0.length c0, .int .u64 a1, .int .i64 a2, .int .u64 a3] w fun e w' => ∃ v0_ : Value, e = .returned (.tuple #[v0_, .int .i64 r2]) ∧ Kd.R k36 36 w' w.heap.size (fun _ => True) v0_ r1 ∧ Below w.heap.size w w' := by
  have hu36 := Try.underlying36
  have HR0 := Aside0.mk hr0
  have HC0 := Aside0.mk hc0
  clear hr0 hc0
  have HB := Aside0.mk (Below.refl w.heap.size w)
  have H : ((interpret_memory.f k l0).bind fun t120 => (if t120 = true then ((interpret_below.f a1 32).bind fun t121 => (if t121 = true then ((slices_Contains_int_int.f k (([8, 16, 32, 64] : List Int)) a2).bind fun t125 => (if t125 = true then ((interpret_below.f a3 a2).bind fun t126 => (interpret_Store.j0 k l0 a1 a2 a3 (!t126))) else (interpret_Store.j0 k l0 a1 a2 a3 true))) else (interpret_Store.j0 k l0 a1 a2 a3 true))) else (interpret_Store.j0 k l0 a1 a2 a3 true))) = some (r1, r2) := h
  clear h
  have HC5 := Aside0.mk H
  clear H
  go_enter Try.func5, Try.ntmps5
  go_upto_region 1 with (fail)
  go_cut [35] (fun v35 wc => ∃ (kq : Nat) (x35_4 : Bool), v35 = .bool x35_4 ∧ Aside0 (interpret_Store.j0 kq l0 a1 a2 a3 x35_4 = some (r1, r2)) ∧ Aside0 (kq ≤ k) ∧ Aside0 (Below w.heap.size w wc))
  case first =>
    have H := HC5.out
    clear HC5
    replace H := Option.bind_eq_some_iff.mp H
    obtain ⟨t120, A60, H⟩ := H
    replace H : (if t120 = true then ((interpret_below.f a1 32).bind fun t121 => (if t121 = true then ((slices_Contains_int_int.f k (([8, 16, 32, 64] : List Int)) a2).bind fun t125 => (if t125 = true then ((interpret_below.f a3 a2).bind fun t126 => (interpret_Store.j0 k l0 a1 a2 a3 (!t126))) else (interpret_Store.j0 k l0 a1 a2 a3 true))) else (interpret_Store.j0 k l0 a1 a2 a3 true))) else (interpret_Store.j0 k l0 a1 a2 a3 true)) = some (r1, r2) := H
    have A6 := Aside0.mk A60
    clear A60
    by_cases c7 : t120 = true
    · subst c7
      have H1 : ((interpret_below.f a1 32).bind fun t121 => (if t121 = true then ((slices_Contains_int_int.f k (([8, 16, 32, 64] : List Int)) a2).bind fun t125 => (if t125 = true then ((interpret_below.f a3 a2).bind fun t126 => (interpret_Store.j0 k l0 a1 a2 a3 (!t126))) else (interpret_Store.j0 k l0 a1 a2 a3 true))) else (interpret_Store.j0 k l0 a1 a2 a3 true))) = some (r1, r2) := by rw [if_pos rfl] at H; exact H
      clear H
      have H := H1
      clear H1
      replace H := Option.bind_eq_some_iff.mp H
      obtain ⟨t121, A80, H⟩ := H
      replace H : (if t121 = true then ((slices_Contains_int_int.f k (([8, 16, 32, 64] : List Int)) a2).bind fun t125 => (if t125 = true then ((interpret_below.f a3 a2).bind fun t126 => (interpret_Store.j0 k l0 a1 a2 a3 (!t126))) else (interpret_Store.j0 k l0 a1 a2 a3 true))) else (interpret_Store.j0 k l0 a1 a2 a3 true)) = some (r1, r2) := H
      have A8 := Aside0.mk A80
      clear A80
      by_cases c9 : t121 = true
      · subst c9
        have H1 : ((slices_Contains_int_int.f k (([8, 16, 32, 64] : List Int)) a2).bind fun t125 => (if t125 = true then ((interpret_below.f a3 a2).bind fun t126 => (interpret_Store.j0 k l0 a1 a2 a3 (!t126))) else (interpret_Store.j0 k l0 a1 a2 a3 true))) = some (r1, r2) := by rw [if_pos rfl] at H; exact H
        clear H
        have H := H1
        clear H1
        obtain ⟨y122, hy122⟩ : ∃ y_ : List Int, y_ = (([8, 16, 32, 64] : List Int)) := ⟨_, rfl⟩
        replace H : ((slices_Contains_int_int.f k y122 a2).bind fun t125 => (if t125 = true then ((interpret_below.f a3 a2).bind fun t126 => (interpret_Store.j0 k l0 a1 a2 a3 (!t126))) else (interpret_Store.j0 k l0 a1 a2 a3 true))) = some (r1, r2) := by first | (rw [hy122]; with_reducible exact H) | (have H2_ := (Option.bind_some _ _).symm.trans H; rw [hy122]; with_reducible exact H2_) | (have H2_ := (Option.bind_some _ _).symm.trans H; with_reducible exact H2_) | with_reducible exact H | (rw [hy122]; exact H) | exact H
        have Ny122 := Aside0.mk hy122
        clear hy122
        replace H := Option.bind_eq_some_iff.mp H
        obtain ⟨t125, A100, H⟩ := H
        replace H : (if t125 = true then ((interpret_below.f a3 a2).bind fun t126 => (interpret_Store.j0 k l0 a1 a2 a3 (!t126))) else (interpret_Store.j0 k l0 a1 a2 a3 true)) = some (r1, r2) := H
        have A10 := Aside0.mk A100
        clear A100
        by_cases c11 : t125 = true
        · subst c11
          have H1 : ((interpret_below.f a3 a2).bind fun t126 => (interpret_Store.j0 k l0 a1 a2 a3 (!t126))) = some (r1, r2) := by rw [if_pos rfl] at H; exact H
          clear H
          have H := H1
          clear H1
          replace H := Option.bind_eq_some_iff.mp H
          obtain ⟨t126, A120, H⟩ := H
          replace H : (interpret_Store.j0 k l0 a1 a2 a3 (!t126)) = some (r1, r2) := H
          have A12 := Aside0.mk A120
          clear A120
          have H' := Aside0.mk H
          clear H
          go_wp2_with (first | ((with_reducible refine gate_callee (f := 10) rfl ?_); refine goesL_ (some 17) rfl rfl Try.func10 (by kernel_rfl) rfl #[.slice A0 l0.length c0] rfl q1_ ?_; (with_reducible refine (interpret_memory.calls k _ _ l0 true _ ?side1 ?side2 A6.out).mono ?_); (case side1 => repeat (first | exact (Kd.C_below HR0.out HB.out) | (with_reducible refine Kd.C_alloc ?_ _) | (with_reducible refine Kd.C_drewN ?_ _) | (with_reducible refine Kd.C_drew ?_))); (case side2 => exact HC0.out); rintro e w13 ⟨rfl, hb⟩; refine ⟨_, rfl, ?_⟩; have n0_ := Aside0.mk (below_step q0_ hb); clear HB; have HB := n0_; clear n0_; (try clear hb); (try clear hb2); (try clear hk); (try clear hi)) | (go_at_call 11; (with_reducible refine (interpret_below.calls a1 32 true _ A8.out).mono ?_); rintro e w' ⟨rfl, ⟨nd, rfl⟩⟩) | ((with_reducible refine gate_dst (N := 25) rfl ?_); (try (refine gate_guard (by rfl) ?_; dsimp only)); refine Kd.R_lit (Kd.int .i64) _ 3 ?hg (N := 25) ?hd (xs := ([8, 16, 32, 64] : List Int)) (inner := [.int .i64 8, .int .i64 16, .int .i64 32, .int .i64 64]) (ok := fun _ => True) (okp := fun _ => True) ?hr ?hp (fun _ hk => hk) trivial (Below.refl _ _) (Nat.le_refl _) (by simp) ?_; (case hd => rfl); (case hg => rfl); (case hr => first | (go_simp; done) | (go_simp; rfl)); (case hp => exact (Reps.one (show Kd.M (Kd.int .i64) _ _ _ 8 [.int .i64 8] from rfl) (Reps.one (show Kd.M (Kd.int .i64) _ _ _ 16 [.int .i64 16] from rfl) (Reps.one (show Kd.M (Kd.int .i64) _ _ _ 32 [.int .i64 32] from rfl) (Reps.one (show Kd.M (Kd.int .i64) _ _ _ 64 [.int .i64 64] from rfl) (Reps.none _ _)))))); intro v123 w14 ho15 hb hg_ hnew_; clear hg_ hnew_; (first | rw [← Ny122.out] at ho15 | (simp only [Int.reduceToNat] at ho15; rw [← Ny122.out] at ho15)); have n0_ := Aside0.mk (Kd.R_lower ho15 (below_size q0_)); have n1_ := Aside0.mk (below_step q0_ hb); clear HB; have HO124 := n0_; have HB := n1_; clear n0_ n1_; clear hb ho15; obtain ⟨Ao16, co16, eo16⟩ := Kd.R_slice HO124.out; subst eo16) | (go_at_call 12; (with_reducible refine (slices_Contains_int_int.calls k _ _ y122 a2 true _ ?side1 ?side2 A10.out).mono ?_); (case side1 => repeat (first | exact (Kd.R_reads' HO124.out).2.2 | (with_reducible refine Kd.C_alloc ?_ _) | (with_reducible refine Kd.C_drewN ?_ _) | (with_reducible refine Kd.C_drew ?_))); (case side2 => exact (Kd.R_reads' HO124.out).2.1); rintro e w' ⟨rfl, ⟨nd, rfl⟩⟩) | (go_at_call 11; (with_reducible refine (interpret_below.calls a3 a2 t126 _ A12.out).mono ?_); rintro e w' ⟨rfl, ⟨nd, rfl⟩⟩))
          go_meet
          case rel => exact ⟨_, (!t126), q4_, H', ⟨by first | omega | exact Nat.le_refl _⟩, ⟨by repeat (first | (with_reducible first | exact HB.out | apply below_alloc | apply pw_below_drewN | apply below_drew1) | exact HB.out)⟩⟩
        · replace c11 := Bool.eq_false_iff.mpr c11
          subst c11
          have H1 : (interpret_Store.j0 k l0 a1 a2 a3 true) = some (r1, r2) := by rw [if_neg (show ¬ (false = true) by decide)] at H; exact H
          clear H
          have H := H1
          clear H1
          have H' := Aside0.mk H
          clear H
          go_wp2_with (first | ((with_reducible refine gate_callee (f := 10) rfl ?_); refine goesL_ (some 17) rfl rfl Try.func10 (by kernel_rfl) rfl #[.slice A0 l0.length c0] rfl q1_ ?_; (with_reducible refine (interpret_memory.calls k _ _ l0 true _ ?side1 ?side2 A6.out).mono ?_); (case side1 => repeat (first | exact (Kd.C_below HR0.out HB.out) | (with_reducible refine Kd.C_alloc ?_ _) | (with_reducible refine Kd.C_drewN ?_ _) | (with_reducible refine Kd.C_drew ?_))); (case side2 => exact HC0.out); rintro e w17 ⟨rfl, hb⟩; refine ⟨_, rfl, ?_⟩; have n0_ := Aside0.mk (below_step q0_ hb); clear HB; have HB := n0_; clear n0_; (try clear hb); (try clear hb2); (try clear hk); (try clear hi)) | (go_at_call 11; (with_reducible refine (interpret_below.calls a1 32 true _ A8.out).mono ?_); rintro e w' ⟨rfl, ⟨nd, rfl⟩⟩) | ((with_reducible refine gate_dst (N := 25) rfl ?_); (try (refine gate_guard (by rfl) ?_; dsimp only)); refine Kd.R_lit (Kd.int .i64) _ 3 ?hg (N := 25) ?hd (xs := ([8, 16, 32, 64] : List Int)) (inner := [.int .i64 8, .int .i64 16, .int .i64 32, .int .i64 64]) (ok := fun _ => True) (okp := fun _ => True) ?hr ?hp (fun _ hk => hk) trivial (Below.refl _ _) (Nat.le_refl _) (by simp) ?_; (case hd => rfl); (case hg => rfl); (case hr => first | (go_simp; done) | (go_simp; rfl)); (case hp => exact (Reps.one (show Kd.M (Kd.int .i64) _ _ _ 8 [.int .i64 8] from rfl) (Reps.one (show Kd.M (Kd.int .i64) _ _ _ 16 [.int .i64 16] from rfl) (Reps.one (show Kd.M (Kd.int .i64) _ _ _ 32 [.int .i64 32] from rfl) (Reps.one (show Kd.M (Kd.int .i64) _ _ _ 64 [.int .i64 64] from rfl) (Reps.none _ _)))))); intro v123 w18 ho19 hb hg_ hnew_; clear hg_ hnew_; (first | rw [← Ny122.out] at ho19 | (simp only [Int.reduceToNat] at ho19; rw [← Ny122.out] at ho19)); have n0_ := Aside0.mk (Kd.R_lower ho19 (below_size q0_)); have n1_ := Aside0.mk (below_step q0_ hb); clear HB; have HO124 := n0_; have HB := n1_; clear n0_ n1_; clear hb ho19; obtain ⟨Ao20, co20, eo20⟩ := Kd.R_slice HO124.out; subst eo20) | (go_at_call 12; (with_reducible refine (slices_Contains_int_int.calls k _ _ y122 a2 false _ ?side1 ?side2 A10.out).mono ?_); (case side1 => repeat (first | exact (Kd.R_reads' HO124.out).2.2 | (with_reducible refine Kd.C_alloc ?_ _) | (with_reducible refine Kd.C_drewN ?_ _) | (with_reducible refine Kd.C_drew ?_))); (case side2 => exact (Kd.R_reads' HO124.out).2.1); rintro e w' ⟨rfl, ⟨nd, rfl⟩⟩))
          go_meet
          case rel => exact ⟨_, (true), q4_, H', ⟨by first | omega | exact Nat.le_refl _⟩, ⟨by repeat (first | (with_reducible first | exact HB.out | apply below_alloc | apply pw_below_drewN | apply below_drew1) | exact HB.out)⟩⟩
      · replace c9 := Bool.eq_false_iff.mpr c9
        subst c9
        have H1 : (interpret_Store.j0 k l0 a1 a2 a3 true) = some (r1, r2) := by rw [if_neg (show ¬ (false = true) by decide)] at H; exact H
        clear H
        have H := H1
        clear H1
        have H' := Aside0.mk H
        clear H
        go_wp2_with (first | ((with_reducible refine gate_callee (f := 10) rfl ?_); refine goesL_ (some 17) rfl rfl Try.func10 (by kernel_rfl) rfl #[.slice A0 l0.length c0] rfl q1_ ?_; (with_reducible refine (interpret_memory.calls k _ _ l0 true _ ?side1 ?side2 A6.out).mono ?_); (case side1 => repeat (first | exact (Kd.C_below HR0.out HB.out) | (with_reducible refine Kd.C_alloc ?_ _) | (with_reducible refine Kd.C_drewN ?_ _) | (with_reducible refine Kd.C_drew ?_))); (case side2 => exact HC0.out); rintro e w21 ⟨rfl, hb⟩; refine ⟨_, rfl, ?_⟩; have n0_ := Aside0.mk (below_step q0_ hb); clear HB; have HB := n0_; clear n0_; (try clear hb); (try clear hb2); (try clear hk); (try clear hi)) | (go_at_call 11; (with_reducible refine (interpret_below.calls a1 32 false _ A8.out).mono ?_); rintro e w' ⟨rfl, ⟨nd, rfl⟩⟩))
        go_meet
        case rel => exact ⟨_, (true), q4_, H', ⟨by first | omega | exact Nat.le_refl _⟩, ⟨by repeat (first | (with_reducible first | exact HB.out | apply below_alloc | apply pw_below_drewN | apply below_drew1) | exact HB.out)⟩⟩
    · replace c7 := Bool.eq_false_iff.mpr c7
      subst c7
      have H1 : (interpret_Store.j0 k l0 a1 a2 a3 true) = some (r1, r2) := by rw [if_neg (show ¬ (false = true) by decide)] at H; exact H
      clear H
      have H := H1
      clear H1
      have H' := Aside0.mk H
      clear H
      go_wp2_with (first | ((with_reducible refine gate_callee (f := 10) rfl ?_); refine goesL_ (some 17) rfl rfl Try.func10 (by kernel_rfl) rfl #[.slice A0 l0.length c0] rfl q1_ ?_; (with_reducible refine (interpret_memory.calls k _ _ l0 false _ ?side1 ?side2 A6.out).mono ?_); (case side1 => repeat (first | exact (Kd.C_below HR0.out HB.out) | (with_reducible refine Kd.C_alloc ?_ _) | (with_reducible refine Kd.C_drewN ?_ _) | (with_reducible refine Kd.C_drew ?_))); (case side2 => exact HC0.out); rintro e w22 ⟨rfl, hb⟩; refine ⟨_, rfl, ?_⟩; have n0_ := Aside0.mk (below_step q0_ hb); clear HB; have HB := n0_; clear n0_; (try clear hb); (try clear hb2); (try clear hk); (try clear hi)))
      go_meet
      case rel => exact ⟨_, (true), q4_, H', ⟨by first | omega | exact Nat.le_refl _⟩, ⟨by repeat (first | (with_reducible first | exact HB.out | apply below_alloc | apply pw_below_drewN | apply below_drew1) | exact HB.out)⟩⟩
  case rest =>
    clear HC5
    try clear c1
    try clear p2
    try clear c5
    try clear c7
    try clear c9
    try clear c10
    try clear c11
    obtain ⟨kq, x35_4, rfl, HA, HJ4, HB⟩ := hcut
    cases kq with
    | zero => exact absurd HA.out (by simp [interpret_Store.j0])
    | succ kj4 =>
      have H := HA.out
      clear HA
      simp only [interpret_Store.j0] at H
      by_cases c23 : x35_4 = true
      · subst c23
        have H1 : (some (([] : List (S36)), 2)) = some (r1, r2) := by rw [if_pos rfl] at H; exact H
        clear H
        have H := H1
        clear H1
        simp only [Option.some.injEq, Prod.mk.injEq] at H
        obtain ⟨rfl, rfl⟩ := H
        go_wp2
        go_ret2
        exact ⟨_, by first | rfl | (simp [errW_none, errW_some] <;> rfl) | (simp [*, errW_none, errW_some] <;> rfl), by first | exact Kd.R_nil _ _ _ _ _ | exact Kd.N_nil _ _ _ _ _ | exact Kd.V_nil _ _ _ _ _ | exact Kd.Q_nil _ _ _ _ _ | exact Kd.S_nil _ _ _ _ _, by repeat (first | (with_reducible first | exact HB.out | apply below_alloc | apply pw_below_drewN | apply below_drew1) | exact HB.out)⟩
      · replace c23 := Bool.eq_false_iff.mpr c23
        subst c23
        have H1 : ((api_Cell_13.f l0).bind fun t127 => (interpret_Store.l0 kj4 a1 a2 a3 t127 0)) = some (r1, r2) := by rw [if_neg (show ¬ (false = true) by decide)] at H; exact H
        clear H
        have H := H1
        clear H1
        replace H := Option.bind_eq_some_iff.mp H
        obtain ⟨t127, A240, H⟩ := H
        replace H : (interpret_Store.l0 kj4 a1 a2 a3 t127 0) = some (r1, r2) := H
        have A24 := Aside0.mk A240
        clear A240
        have H' := Aside0.mk H
        clear H
        go_wp2_with (first | ((with_reducible refine gate_callee (f := 13) rfl ?_); refine goesL_ (some 37) rfl rfl Try.func13 (by kernel_rfl) rfl #[.slice A0 l0.length c0] rfl q1_ ?_; (with_reducible refine (api_Cell_13.calls _ _ l0 t127 _ ?side1 ?side2 A24.out).mono ?_); (case side1 => repeat (first | exact (Kd.C_below HR0.out HB.out) | (with_reducible refine Kd.C_alloc ?_ _) | (with_reducible refine Kd.C_drewN ?_ _) | (with_reducible refine Kd.C_drew ?_))); (case side2 => exact HC0.out); rintro e w25 ⟨v128, rfl, ho0, hb⟩; refine ⟨_, rfl, ?_⟩; have n0_ := Aside0.mk (Kd.R_lower ho0 (below_size q0_)); have n1_ := Aside0.mk (below_step q0_ hb); clear HB; have HO129 := n0_; have HB := n1_; clear n0_ n1_; (try clear hb); (try clear hb2); (try clear hk); (try clear hi); (try clear ho0)))
        go_loopg [10, 11] kj4 (fun kq v10 v11 w' => ∃ (x10_2 : List (S36)) (x11_2 : Int), v11 = .int .i64 x11_2 ∧ Aside0 (interpret_Store.l0 kq a1 a2 a3 x10_2 x11_2 = some (r1, r2)) ∧ Aside0 (kq ≤ kj4) ∧ Aside0 (Kd.R k36 36 w' w.heap.size (fun _ => True) v10 x10_2) ∧ Aside0 (Below w.heap.size w w'))
        case atStart => exact ⟨(t127), (0), q4_, H', ⟨Nat.le_refl _⟩, ⟨by (with_reducible repeat (first | apply Kd.R_alloc | apply Kd.R_drewN | apply Kd.R_drew)); exact HO129.out⟩, ⟨by repeat (first | (with_reducible first | exact HB.out | apply below_alloc | apply pw_below_drewN | apply below_drew1) | exact HB.out)⟩⟩
        case round =>
          clear H'
          try clear c1
          try clear c2
          try clear p2
          try clear c5
          try clear c7
          try clear c9
          try clear c10
          try clear c11
          try clear c13
          try clear c23
          try clear p2
          obtain ⟨x10_2, x11_2, rfl, HA, HK2, HO_10, HB⟩ := hrel
          cases gk with
          | zero => exact absurd HA.out (by simp [interpret_Store.l0])
          | succ k2 =>
            have H := HA.out
            clear HA
            simp only [interpret_Store.l0] at H
            by_cases c26 : x11_2 < a2
            · rw [if_pos c26] at H
              have c26b0 : decide (x11_2 < a2) = true := decide_eq_true c26
              clear c26
              by_cases c27 : 0 ≤ x11_2
              · rw [if_pos c27] at H
                have c27b0 := eq_true c27
                have c27b1 : decide (0 ≤ x11_2) = true := decide_eq_true c27
                clear c27
                obtain ⟨ji28, hji28⟩ : ∃ j_ : Int, (shr .u64 a3 x11_2) = j_ := ⟨_, rfl⟩
                replace H : ((api_Cell_uint64.f k2 x10_2 (Go.bits .and .u64 (IntKind.u64.wrap (a1 + (IntKind.u64.wrap (wrap64 (Int.tdiv x11_2 8))))) 4294967295)).bind fun bt130 => (if bt130.2 = true then (interpret_Store.j2 k2 a1 a2 a3 x10_2 x11_2 (Go.bits .and .u64 (IntKind.u64.wrap (a1 + (IntKind.u64.wrap (wrap64 (Int.tdiv x11_2 8))))) 4294967295) ((ji28) % 256) bt130.1 bt130.2 (((ji28) % 256) == 0)) else (interpret_Store.j2 k2 a1 a2 a3 x10_2 x11_2 (Go.bits .and .u64 (IntKind.u64.wrap (a1 + (IntKind.u64.wrap (wrap64 (Int.tdiv x11_2 8))))) 4294967295) ((ji28) % 256) bt130.1 bt130.2 false))) = some (r1, r2) := by first | (rw [hji28] at H; exact H) | (simp only [hji28] at H ⊢; exact H)
                have hji28_ : (a3 / 2 ^ min x11_2.toNat 64) = ji28 := hji28
                have hji28z : x11_2 ≤ 64 → (a3 / 2 ^ x11_2.toNat) = ji28 := shr_small hji28
                replace H := Option.bind_eq_some_iff.mp H
                obtain ⟨⟨t130, t131⟩, A290, H⟩ := H
                replace H : (if t131 = true then (interpret_Store.j2 k2 a1 a2 a3 x10_2 x11_2 (Go.bits .and .u64 (IntKind.u64.wrap (a1 + (IntKind.u64.wrap (wrap64 (Int.tdiv x11_2 8))))) 4294967295) ((ji28) % 256) t130 t131 (((ji28) % 256) == 0)) else (interpret_Store.j2 k2 a1 a2 a3 x10_2 x11_2 (Go.bits .and .u64 (IntKind.u64.wrap (a1 + (IntKind.u64.wrap (wrap64 (Int.tdiv x11_2 8))))) 4294967295) ((ji28) % 256) t130 t131 false)) = some (r1, r2) := H
                have A29 := Aside0.mk A290
                clear A290
                have HC30 := Aside0.mk H
                clear H
                obtain ⟨Ao31, co31, eo31⟩ := Kd.R_slice HO_10.out
                subst eo31
                go_upto_region 10 with (first | ((with_reducible refine gate_callee (f := 14) rfl ?_); refine goesL_ (some 56) rfl rfl Try.func14 (by kernel_rfl) rfl #[.slice Ao31 x10_2.length co31, .int .u64 (Go.bits .and .u64 (IntKind.u64.wrap (a1 + (IntKind.u64.wrap (wrap64 (Int.tdiv x11_2 8))))) 4294967295), .func (.func 15) #[] #[]] rfl q1_ ?_; (with_reducible refine (api_Cell_uint64.calls k2 _ _ x10_2 (Go.bits .and .u64 (IntKind.u64.wrap (a1 + (IntKind.u64.wrap (wrap64 (Int.tdiv x11_2 8))))) 4294967295)  t130 t131 _ ?side1 ?side2 A29.out).mono ?_); (case side1 => repeat (first | exact (Kd.R_reads' HO_10.out).2.2 | (with_reducible refine Kd.C_alloc ?_ _) | (with_reducible refine Kd.C_drewN ?_ _) | (with_reducible refine Kd.C_drew ?_))); (case side2 => exact (Kd.R_reads' HO_10.out).2.1); rintro e w32 ⟨rfl, hb⟩; refine ⟨_, rfl, ?_⟩; have n0_ := Aside0.mk (Kd.R_below q15_ hb); have n1_ := Aside0.mk (below_step q0_ hb); clear HO_10; clear HB; have HO_10 := n0_; have HB := n1_; clear n0_ n1_; (try clear hb); (try clear hb2); (try clear hk); (try clear hi)))
                (try simp only [Act.put, List.setIfInBounds_toArray, List.set_cons_zero, List.set_cons_succ])
                go_cut [59] (fun v59 wc => ∃ (kq : Nat) (x59_29 : Bool), v59 = .bool x59_29 ∧ Aside0 (interpret_Store.j2 kq a1 a2 a3 x10_2 x11_2 (Go.bits .and .u64 (IntKind.u64.wrap (a1 + (IntKind.u64.wrap (wrap64 (Int.tdiv x11_2 8))))) 4294967295) ((ji28) % 256) t130 t131 x59_29 = some (r1, r2)) ∧ Aside0 (kq ≤ k2) ∧ Aside0 (Kd.R k36 36 wc w.heap.size (fun _ => True) (.slice Ao31 x10_2.length co31) x10_2) ∧ Aside0 (Below w.heap.size w wc))
                case first =>
                  have H := HC30.out
                  clear HC30
                  by_cases c33 : t131 = true
                  · subst c33
                    have H1 : (interpret_Store.j2 k2 a1 a2 a3 x10_2 x11_2 (Go.bits .and .u64 (IntKind.u64.wrap (a1 + (IntKind.u64.wrap (wrap64 (Int.tdiv x11_2 8))))) 4294967295) ((ji28) % 256) t130 true (((ji28) % 256) == 0)) = some (r1, r2) := by rw [if_pos rfl] at H; exact H
                    clear H
                    have H := H1
                    clear H1
                    have H' := Aside0.mk H
                    clear H
                    go_wp2
                    go_meet
                    case rel => exact ⟨_, ((((ji28) % 256) == 0)), (by first | rfl | (simp; done) | (simp only [← hji28] <;> (first | rfl | simp)) | (simp [*]; done)), H', ⟨by have := HJ4.out; have := HK2.out; first | omega | exact Nat.le_refl _⟩, ⟨by (with_reducible repeat (first | apply Kd.R_alloc | apply Kd.R_drewN | apply Kd.R_drew)); exact HO_10.out⟩, ⟨by repeat (first | (with_reducible first | exact HB.out | apply below_alloc | apply pw_below_drewN | apply below_drew1) | exact HB.out)⟩⟩
                  · replace c33 := Bool.eq_false_iff.mpr c33
                    subst c33
                    have H1 : (interpret_Store.j2 k2 a1 a2 a3 x10_2 x11_2 (Go.bits .and .u64 (IntKind.u64.wrap (a1 + (IntKind.u64.wrap (wrap64 (Int.tdiv x11_2 8))))) 4294967295) ((ji28) % 256) t130 false false) = some (r1, r2) := by rw [if_neg (show ¬ (false = true) by decide)] at H; exact H
                    clear H
                    have H := H1
                    clear H1
                    have H' := Aside0.mk H
                    clear H
                    go_wp2
                    go_meet
                    case rel => exact ⟨_, (false), q4_, H', ⟨by have := HJ4.out; have := HK2.out; first | omega | exact Nat.le_refl _⟩, ⟨by (with_reducible repeat (first | apply Kd.R_alloc | apply Kd.R_drewN | apply Kd.R_drew)); exact HO_10.out⟩, ⟨by repeat (first | (with_reducible first | exact HB.out | apply below_alloc | apply pw_below_drewN | apply below_drew1) | exact HB.out)⟩⟩
                case rest =>
                  clear HC30
                  try clear c1
                  try clear c2
                  try clear p2
                  try clear c3
                  try clear c5
                  try clear p6
                  try clear c7
                  try clear c9
                  try clear c10
                  try clear c11
                  try clear c13
                  try clear c14
                  try clear c23
                  try clear c26
                  try clear c26b0
                  try clear c27
                  try clear c27b0
                  try clear c27b1
                  try clear c33
                  try clear p2
                  obtain ⟨kq, x59_29, rfl, HA, HJ29, HO_10, HB⟩ := hcut
                  cases kq with
                  | zero => exact absurd HA.out (by simp [interpret_Store.j2])
                  | succ kj29 =>
                    have H := HA.out
                    clear HA
                    simp only [interpret_Store.j2] at H
                    by_cases c34 : x59_29 = true
                    · subst c34
                      have H1 : ((api_Cell_16.f x10_2 t130 (wrap64 (t130 + 1))).bind fun t132 => (interpret_Store.l0 kj29 a1 a2 a3 t132 (wrap64 (x11_2 + 8)))) = some (r1, r2) := by rw [if_pos rfl] at H; exact H
                      clear H
                      have H := H1
                      clear H1
                      replace H := Option.bind_eq_some_iff.mp H
                      obtain ⟨t132, A350, H⟩ := H
                      replace H : (interpret_Store.l0 kj29 a1 a2 a3 t132 (wrap64 (x11_2 + 8))) = some (r1, r2) := H
                      have A35 := Aside0.mk A350
                      clear A350
                      have H' := Aside0.mk H
                      clear H
                      go_wp2_with (first | ((with_reducible refine gate_callee (f := 16) rfl ?_); refine goesL_ (some 69) rfl rfl Try.func16 (by kernel_rfl) rfl #[.slice Ao31 x10_2.length co31, .int .i64 t130, .int .i64 (wrap64 (t130 + 1))] rfl q1_ ?_; (with_reducible refine (api_Cell_16.calls _ _ w.heap.size (fun _ => True) x10_2 t130 (wrap64 (t130 + 1)) t132 _ ?side1 ?side2 A35.out).mono ?_); (case side1 => (with_reducible repeat (first | apply Kd.R_alloc | apply Kd.R_drewN | apply Kd.R_drew)); exact HO_10.out); (case side2 => exact below_size q0_); rintro e w36 ⟨v133, rfl, ho0, hb⟩; refine ⟨_, rfl, ?_⟩; have n1_ := Aside0.mk ho0; have n2_ := Aside0.mk (Below.trans q0_ hb); clear HO_10; clear HB; have HO134 := n1_; have HB := n2_; clear n1_ n2_; (try clear hb); (try clear ho0)))
                      go_roundg kj29
                      case measure => have := HJ4.out; have := HK2.out; have := HJ29.out; omega
                      case rel => exact ⟨(t132), (wrap64 (x11_2 + 8)), q4_, H', ⟨by have := HJ4.out; have := HK2.out; have := HJ29.out; omega⟩, ⟨by (with_reducible repeat (first | apply Kd.R_alloc | apply Kd.R_drewN | apply Kd.R_drew)); exact Kd.R_mono HO134.out (fun _ hk => trivial)⟩, ⟨by repeat (first | (with_reducible first | exact HB.out | apply below_alloc | apply pw_below_drewN | apply below_drew1) | exact HB.out)⟩⟩
                    · replace c34 := Bool.eq_false_iff.mpr c34
                      subst c34
                      have H1 : (if t131 = true then (if 0 ≤ t130 then (if t130 < (x10_2.length : Int) then (interpret_Store.l0 kj29 a1 a2 a3 (x10_2.set (t130 : Int).toNat (⟨(rd_T36 x10_2 t130).f0, ((ji28) % 256)⟩ : S36)) (wrap64 (x11_2 + 8))) else (none)) else (none)) else (if ((ji28) % 256) = 0 then (interpret_Store.l0 kj29 a1 a2 a3 x10_2 (wrap64 (x11_2 + 8))) else ((api_Cell_17.f x10_2 t130 (([(⟨(Go.bits .and .u64 (IntKind.u64.wrap (a1 + (IntKind.u64.wrap (wrap64 (Int.tdiv x11_2 8))))) 4294967295), ((ji28) % 256)⟩ : S36)] : List (S36)))).bind fun t139 => (interpret_Store.l0 kj29 a1 a2 a3 t139 (wrap64 (x11_2 + 8)))))) = some (r1, r2) := by rw [if_neg (show ¬ (false = true) by decide)] at H; exact H
                      clear H
                      have H := H1
                      clear H1
                      by_cases c37 : t131 = true
                      · subst c37
                        have H1 : (if 0 ≤ t130 then (if t130 < (x10_2.length : Int) then (interpret_Store.l0 kj29 a1 a2 a3 (x10_2.set (t130 : Int).toNat (⟨(rd_T36 x10_2 t130).f0, ((ji28) % 256)⟩ : S36)) (wrap64 (x11_2 + 8))) else (none)) else (none)) = some (r1, r2) := by rw [if_pos rfl] at H; exact H
                        clear H
                        have H := H1
                        clear H1
                        by_cases c38 : 0 ≤ t130
                        · rw [if_pos c38] at H
                          have c38b0 : decide (0 ≤ t130) = true := decide_eq_true c38
                          clear c38
                          by_cases c39 : t130 < (x10_2.length : Int)
                          · rw [if_pos c39] at H
                            have c39b0 : decide (t130 < (x10_2.length : Int)) = true := decide_eq_true c39
                            clear c39
                            obtain ⟨y135, hy135⟩ : ∃ y_ : List (S36), y_ = (x10_2.set (t130 : Int).toNat (⟨(rd_T36 x10_2 t130).f0, ((ji28) % 256)⟩ : S36)) := ⟨_, rfl⟩
                            replace H : (interpret_Store.l0 kj29 a1 a2 a3 y135 (wrap64 (x11_2 + 8))) = some (r1, r2) := by first | (rw [hy135]; with_reducible exact H) | (have H2_ := (Option.bind_some _ _).symm.trans H; rw [hy135]; with_reducible exact H2_) | (have H2_ := (Option.bind_some _ _).symm.trans H; with_reducible exact H2_) | with_reducible exact H | (rw [hy135]; exact H) | exact H
                            have Ny135 := Aside0.mk hy135
                            clear hy135
                            have H' := Aside0.mk H
                            clear H
                            have p40 : 0 ≤ (t130 : Int) := of_decide_eq_true q2_
                            have q40 : (t130 : Int) < ((x10_2.length : Int) : Int) := of_decide_eq_true q2_
                            obtain ⟨go40, co40, eo40, gb40, gl40, cl40, HG40⟩ := Kd.R_form HO_10.out (by omega)
                            (first | cases eo40 | (injection eo40 with ea_ en_ ec_; (first | subst ea_ | (injection ea_ with ea_; subst ea_)); subst ec_; clear en_))
                            have GB40 := Aside0.mk gb40
                            have GG40 := Aside0.mk HG40
                            clear gb40 gl40 HG40
                            obtain ⟨ce40, hcl40, hM40, hcc40, hfr40⟩ := Kd.R_elem HO_10.out z36 (t130 : Int) p40 q40
                            obtain rfl := k36_openM hM40
                            have hx40_0 : wc.cell? ⟨go40, (t130 : Int).toNat * 2, none⟩ = some (.int .u64 ((rd_T36 x10_2 t130).f0)) := hcc40 0 _ rfl
                            have hx40_1 : wc.cell? ⟨go40, (t130 : Int).toNat * 2 + 1, none⟩ = some (.int .u8 ((rd_T36 x10_2 t130).f1)) := hcc40 1 _ rfl
                            have hf40_0 : wc.frozen? ⟨go40, (t130 : Int).toNat * 2, none⟩ = false := hfr40 0
                            have hf40_1 : wc.frozen? ⟨go40, (t130 : Int).toNat * 2 + 1, none⟩ = false := hfr40 1
                            clear hcl40 hcc40 hfr40 hM40
                            replace p40 := eq_true p40
                            replace q40 := eq_true q40
                            have HX41 := Aside0.mk (show Kd.R k36 36 wc w.heap.size (fun _ => True) (.slice (some ⟨go40, 0, none⟩) x10_2.length co31) x10_2 from q15_)
                            obtain ⟨ce41, hcl41, hM41, hcc41, hfr41⟩ := Kd.R_elem HX41.out z36 (t130 : Int) (of_decide_eq_true q2_) (by have h_ : (t130 : Int) < ((x10_2.length : Int) : Int) := of_decide_eq_true q2_; first | exact h_ | (have e_ := (Kd.R_reads' HO_10.out).1; omega) | simpa using h_)
                            obtain rfl := k36_openM hM41
                            have HP41 := Kd.R_seg HX41.out (t130 : Int) (of_decide_eq_true q2_) (by have h_ : (t130 : Int) < ((x10_2.length : Int) : Int) := of_decide_eq_true q2_; first | exact h_ | (have e_ := (Kd.R_reads' HO_10.out).1; omega) | simpa using h_) (seg := [.int .u8 ((ji28) % 256)]) (j := 1) hcl41 hcc41 (show 2 ≤ 2 from by decide) (x' := (⟨(rd_T36 x10_2 t130).f0, ((ji28) % 256)⟩ : S36)) (k36_mkM _ _ _ (⟨(rd_T36 x10_2 t130).f0, ((ji28) % 256)⟩ : S36) ) (fun _ hk => hk)
                            have hx41_1 := hcc41 1 _ rfl
                            (try simp only [show (k36).sz = 2 from rfl, Nat.mul_one, Nat.add_zero] at hx41_1)
                            have hf41_1 := hfr41 1
                            (try simp only [show (k36).sz = 2 from rfl, Nat.mul_one, Nat.add_zero] at hf41_1)
                            clear hcl41 hcc41 hfr41 hM41
                            go_wp2_with (first | ((with_reducible refine gate_store (t := 5) (p := 76) rfl ?_); refine store_event (t := 5) (p := 76) (v := ?vo_w42) (w1 := (wc.setCell ⟨go40, (t130 : Int).toNat * 2 + 1, none⟩ (.int .u8 ((ji28) % 256)))) ?hg ?ho ?hn ?hr ?_; (case ho => rfl); (case hg => rfl); (case hn => rfl); (case hr => first | (go_simp; done) | (go_simp; rfl)); intro w42 hw; have hg : wc.grownBy w42 (some go40) := (by rw [hw]; exact HP41.2); have hp_ : Kd.R k36 36 w42 w.heap.size (fun _ => True) (.slice (some ⟨go40, 0, none⟩) x10_2.length co31) y135 := (by rw [hw, Ny135.out]; exact HP41.1); clear HP41; have n0_ := Aside0.mk (hp_); have n1_ := Aside0.mk ((by rw [hw]; exact below_set (HB.out) GB40.out : Below w.heap.size w w42)); clear HO_10; clear HB; have HO_10 := n0_; have HB := n1_; clear n0_ n1_; clear hg hw hp_))
                            go_roundg kj29
                            case measure => have := HJ4.out; have := HK2.out; have := HJ29.out; omega
                            case rel => exact ⟨(y135), (wrap64 (x11_2 + 8)), q4_, H', ⟨by have := HJ4.out; have := HK2.out; have := HJ29.out; omega⟩, ⟨by (with_reducible repeat (first | apply Kd.R_alloc | apply Kd.R_drewN | apply Kd.R_drew)); exact HO_10.out⟩, ⟨by repeat (first | (with_reducible first | exact HB.out | apply below_alloc | apply pw_below_drewN | apply below_drew1) | exact HB.out)⟩⟩
                          · rw [if_neg c39] at H
                            exact absurd H (by simp)
                        · rw [if_neg c38] at H
                          exact absurd H (by simp)
                      · replace c37 := Bool.eq_false_iff.mpr c37
                        subst c37
                        have H1 : (if ((ji28) % 256) = 0 then (interpret_Store.l0 kj29 a1 a2 a3 x10_2 (wrap64 (x11_2 + 8))) else ((api_Cell_17.f x10_2 t130 (([(⟨(Go.bits .and .u64 (IntKind.u64.wrap (a1 + (IntKind.u64.wrap (wrap64 (Int.tdiv x11_2 8))))) 4294967295), ((ji28) % 256)⟩ : S36)] : List (S36)))).bind fun t139 => (interpret_Store.l0 kj29 a1 a2 a3 t139 (wrap64 (x11_2 + 8))))) = some (r1, r2) := by rw [if_neg (show ¬ (false = true) by decide)] at H; exact H
                        clear H
                        have H := H1
                        clear H1
                        by_cases c43 : ((ji28) % 256) = 0
                        · rw [if_pos c43] at H
                          have c43b0 : (((ji28) % 256) == 0) = true := beq_iff_eq.mpr c43
                          have c43b1 : (((ji28) % 256) != 0) = false := bne_eq_false_iff_eq.mpr c43
                          clear c43
                          have H' := Aside0.mk H
                          clear H
                          go_wp2
                          go_roundg kj29
                          case measure => have := HJ4.out; have := HK2.out; have := HJ29.out; omega
                          case rel => exact ⟨(x10_2), (wrap64 (x11_2 + 8)), q4_, H', ⟨by have := HJ4.out; have := HK2.out; have := HJ29.out; omega⟩, ⟨by (with_reducible repeat (first | apply Kd.R_alloc | apply Kd.R_drewN | apply Kd.R_drew)); exact HO_10.out⟩, ⟨by repeat (first | (with_reducible first | exact HB.out | apply below_alloc | apply pw_below_drewN | apply below_drew1) | exact HB.out)⟩⟩
                        · rw [if_neg c43] at H
                          have c43b0 : (((ji28) % 256) == 0) = false := beq_eq_false_iff_ne.mpr c43
                          have c43b1 : (((ji28) % 256) != 0) = true := bne_iff_ne.mpr c43
                          obtain ⟨y136, hy136⟩ : ∃ y_ : List (S36), y_ = (([(⟨(Go.bits .and .u64 (IntKind.u64.wrap (a1 + (IntKind.u64.wrap (wrap64 (Int.tdiv x11_2 8))))) 4294967295), ((ji28) % 256)⟩ : S36)] : List (S36))) := ⟨_, rfl⟩
                          replace H : ((api_Cell_17.f x10_2 t130 y136).bind fun t139 => (interpret_Store.l0 kj29 a1 a2 a3 t139 (wrap64 (x11_2 + 8)))) = some (r1, r2) := by first | (rw [hy136]; with_reducible exact H) | (have H2_ := (Option.bind_some _ _).symm.trans H; rw [hy136]; with_reducible exact H2_) | (have H2_ := (Option.bind_some _ _).symm.trans H; with_reducible exact H2_) | with_reducible exact H | (rw [hy136]; exact H) | exact H
                          have Ny136 := Aside0.mk hy136
                          clear hy136
                          replace H := Option.bind_eq_some_iff.mp H
                          obtain ⟨t139, A440, H⟩ := H
                          replace H : (interpret_Store.l0 kj29 a1 a2 a3 t139 (wrap64 (x11_2 + 8))) = some (r1, r2) := H
                          have A44 := Aside0.mk A440
                          clear A440
                          have H' := Aside0.mk H
                          clear H
                          go_wp2_with (first | ((with_reducible refine gate_dst (N := 85) rfl ?_); (try (refine gate_guard (by rfl) ?_; dsimp only)); refine Kd.R_lit k36 _ 36 ?hg (N := 85) ?hd (xs := ([(⟨(Go.bits .and .u64 (IntKind.u64.wrap (a1 + (IntKind.u64.wrap (wrap64 (Int.tdiv x11_2 8))))) 4294967295), ((ji28) % 256)⟩ : S36)] : List (S36))) (inner := [.int .u64 (Go.bits .and .u64 (IntKind.u64.wrap (a1 + (IntKind.u64.wrap (wrap64 (Int.tdiv x11_2 8))))) 4294967295), .int .u8 ((ji28) % 256)]) (ok := fun _ => True) (okp := fun _ => True) ?hr ?hp (fun _ hk => hk) trivial (Below.refl _ _) (Nat.le_refl _) (by simp) ?_; (case hd => rfl); (case hg => rfl); (case hr => first | (go_simp; done) | (go_simp; rfl)); (case hp => exact (Reps.c2 (show Kd.M k36 _ _ _ (⟨(Go.bits .and .u64 (IntKind.u64.wrap (a1 + (IntKind.u64.wrap (wrap64 (Int.tdiv x11_2 8))))) 4294967295), ((ji28) % 256)⟩ : S36) [.int .u64 (Go.bits .and .u64 (IntKind.u64.wrap (a1 + (IntKind.u64.wrap (wrap64 (Int.tdiv x11_2 8))))) 4294967295), .int .u8 ((ji28) % 256)] from (k36_mkM _ _ _ (⟨(Go.bits .and .u64 (IntKind.u64.wrap (a1 + (IntKind.u64.wrap (wrap64 (Int.tdiv x11_2 8))))) 4294967295), ((ji28) % 256)⟩ : S36) )) (Reps.none _ _))); intro v137 w45 ho46 hb hg_ hnew_; clear hg_ hnew_; (first | rw [← Ny136.out] at ho46 | (simp only [Int.reduceToNat] at ho46; rw [← Ny136.out] at ho46)); have n0_ := Aside0.mk (Kd.R_elder' q15_ (Kd.R_base ho46) hb); have n1_ := Aside0.mk (Kd.R_lower (Kd.R_new' ho46 (Kd.R_lt q15_)) (below_size q0_)); have n2_ := Aside0.mk (below_step q0_ hb); clear HO_10; clear HB; have HO_10 := n0_; have HO138 := n1_; have HB := n2_; clear n0_ n1_ n2_; clear hb ho46; obtain ⟨Ao47, co47, eo47⟩ := Kd.R_slice HO138.out; subst eo47) | ((with_reducible refine gate_callee (f := 17) rfl ?_); refine goesL_ (some 86) rfl rfl Try.func17 (by kernel_rfl) rfl #[.slice Ao31 x10_2.length co31, .int .i64 t130, .slice Ao47 y136.length co47] rfl q1_ ?_; (with_reducible refine (api_Cell_17.calls _ _ w.heap.size ?okA x10_2 t130 _ _ w.heap.size ?okB y136 t139 _ ?side1 ?side2 ?side3 ?side4 A44.out).mono ?_); (case side1 => (with_reducible repeat (first | apply Kd.R_alloc | apply Kd.R_drewN | apply Kd.R_drew)); exact HO_10.out); (case side2 => (with_reducible repeat (first | apply Kd.R_alloc | apply Kd.R_drewN | apply Kd.R_drew)); exact HO138.out); (case side3 => exact fun k hk => (HO_10.out.1 k hk).2); (case side4 => exact below_size q0_); rintro e w48 ⟨v140, rfl, ho0, hb⟩; refine ⟨_, rfl, ?_⟩; have n1_ := Aside0.mk ho0; have n2_ := Aside0.mk (Below.trans q0_ hb); clear HO_10; clear HO138; clear HB; have HO141 := n1_; have HB := n2_; clear n1_ n2_; (try clear hb); (try clear ho0)))
                          go_roundg kj29
                          case measure => have := HJ4.out; have := HK2.out; have := HJ29.out; omega
                          case rel => exact ⟨(t139), (wrap64 (x11_2 + 8)), q4_, H', ⟨by have := HJ4.out; have := HK2.out; have := HJ29.out; omega⟩, ⟨by (with_reducible repeat (first | apply Kd.R_alloc | apply Kd.R_drewN | apply Kd.R_drew)); exact Kd.R_mono HO141.out (fun _ hk => trivial)⟩, ⟨by repeat (first | (with_reducible first | exact HB.out | apply below_alloc | apply pw_below_drewN | apply below_drew1) | exact HB.out)⟩⟩
              · rw [if_neg c27] at H
                exact absurd H (by simp)
            · rw [if_neg c26] at H
              have c26b0 : decide (x11_2 < a2) = false := decide_eq_false c26
              clear c26
              by_cases c49 : (x10_2.length : Int) > 4096
              · rw [if_pos c49] at H
                have c49b0 : decide (4096 < (x10_2.length : Int)) = true := decide_eq_true c49
                have c49b1 : decide (4096 < x10_2.length) = true := decide_eq_true (by omega)
                clear c49
                simp only [Option.some.injEq, Prod.mk.injEq] at H
                obtain ⟨rfl, rfl⟩ := H
                obtain ⟨Ao50, co50, eo50⟩ := Kd.R_slice HO_10.out
                subst eo50
                go_wp2
                go_ret2
                exact ⟨_, by first | rfl | (simp [errW_none, errW_some] <;> rfl) | (simp [*, errW_none, errW_some] <;> rfl), by first | exact Kd.R_nil _ _ _ _ _ | exact Kd.N_nil _ _ _ _ _ | exact Kd.V_nil _ _ _ _ _ | exact Kd.Q_nil _ _ _ _ _ | exact Kd.S_nil _ _ _ _ _, by repeat (first | (with_reducible first | exact HB.out | apply below_alloc | apply pw_below_drewN | apply below_drew1) | exact HB.out)⟩
              · rw [if_neg c49] at H
                have c49b0 : decide (4096 < (x10_2.length : Int)) = false := decide_eq_false c49
                have c49b1 : decide (4096 < x10_2.length) = false := decide_eq_false (by omega)
                clear c49
                simp only [Option.some.injEq, Prod.mk.injEq] at H
                obtain ⟨rfl, rfl⟩ := H
                obtain ⟨Ao51, co51, eo51⟩ := Kd.R_slice HO_10.out
                subst eo51
                go_wp2
                go_ret2
                exact ⟨_, by first | rfl | (simp [errW_none, errW_some] <;> rfl) | (simp [*, errW_none, errW_some] <;> rfl), by (with_reducible repeat (first | apply Kd.R_alloc | apply Kd.R_drewN | apply Kd.R_drew)); exact HO_10.out, by repeat (first | (with_reducible first | exact HB.out | apply below_alloc | apply pw_below_drewN | apply below_drew1) | exact HB.out)⟩

/-! ### retargetref02_CheckCells: function 28 -/
end Go.Proofs.Ytpogkinegkfokaa.MInterpretStores
