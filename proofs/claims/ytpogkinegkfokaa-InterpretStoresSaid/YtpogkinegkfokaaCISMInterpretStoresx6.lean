/- Functions of the program as Lean functions, and of each a proof that the Go code comes to just its answers. Laid for this claim by wip/drive.py of this repo (our driver over the kit's printing program); no text of print.sh. No condition. -/
import Derived.Test.YtpogkinegkfokaaCISMInterpretStoresx0
import Derived.Test.YtpogkinegkfokaaCISMInterpretStoresx2
import Derived.Test.YtpogkinegkfokaaCISMInterpretStoresx4
import Derived.Test.YtpogkinegkfokaaCISMInterpretStoresx5
import Derived.Test.YtpogkinegkfokaaCISHInterpretStoresStore
namespace Go.Proofs.Ytpogkinegkfokaa.MInterpretStores
open Go.Proofs.Ytpogkinegkfokaa.Zed Go.RowKit Go.Proofs.YtpogkinegkfokaaW.PrintWords Go.Proofs.YtpogkinegkfokaaW.PrintLast Go.Proofs.YtpogkinegkfokaaW.PrintMore
attribute [local go_sem] max2_int min2_int max_two min_two max_three min_three max_four min_four   -- for this text's walks alone
set_option linter.unusedVariables false
set_option linter.unusedSimpArgs false

/-! ### retargetlaw19_InterpretStores: function 3 -/
mutual
def retargetlaw19_InterpretStores.j0 : Nat → List (S36) → Int → Int → Int → Bool → List Int → Int → Int → List (S36) → List Int → Int → Int → List (S36) → Option (Bool)
 | 0, _, _, _, _, _, _, _, _, _, _, _, _, _ => none
 | k + 1, x0, x1, x2, x3, x46, x175000, x175001, x175002, x175003, x176000, x176001, x176002, x176003 => if x46 = true then (some true) else ((retargetref19_TwinCells.f x0).bind fun t176 => ((interpret_Store.f k t176 x1 x2 x3).bind fun bt179 => ((retargetref19_Store.f k x0 x1 x2 x3).bind fun bt183 => ((retargetref19_SameCells.f k bt179.1 bt183.1).bind fun t187 => (if t187 = true then (if bt179.2 = bt183.2 then ((interpret_Same.f k x175000 x175001 x175002 x175003 x176000 x176001 x176002 x176003).bind fun t188 => ((retargetref19_Same.f k x175000 x175001 x175002 x175003 x176000 x176001 x176002 x176003).bind fun t189 => (if (t188 == t189) = true then ((interpret_Same.f k x175000 x175001 x175002 x175003 x175000 x175001 x175002 x175003).bind fun t190 => (retargetlaw19_InterpretStores.j1 k x0 t176 bt179.1 t190)) else (retargetlaw19_InterpretStores.j1 k x0 t176 bt179.1 false)))) else (retargetlaw19_InterpretStores.j1 k x0 t176 bt179.1 false)) else (retargetlaw19_InterpretStores.j1 k x0 t176 bt179.1 false))))))
def retargetlaw19_InterpretStores.j1 : Nat → List (S36) → List (S36) → List (S36) → Bool → Option (Bool)
 | 0, _, _, _, _ => none
 | k + 1, x0, x13, x14, x18 => retargetlaw19_InterpretStores.l0 k x0 x13 x14 x18 0
def retargetlaw19_InterpretStores.l0 : Nat → List (S36) → List (S36) → List (S36) → Bool → Int → Option (Bool)
 | 0, _, _, _, _, _ => none
 | k + 1, x0, x13, x14, x18, x19 => if x19 < (x14.length : Int) then (if 0 ≤ x19 then (retargetlaw19_InterpretStores.l0 k x0 x13 (x14.set (x19 : Int).toNat (⟨(rd_T36 x14 x19).f0, 99⟩ : S36)) x18 (wrap64 (x19 + 1))) else (none)) else (if x18 = true then ((retargetref19_SameCells.f k x13 x0).bind fun t192 => (some t192)) else (some false))
end
def retargetlaw19_InterpretStores.f (k : Nat) (l0 : List (S36)) (a1 : Int) (a2 : Int) (a3 : Int) (l4_0 : List Int) (a4_1 : Int) (a4_2 : Int) (l4_3 : List (S36)) (l5_0 : List Int) (a5_1 : Int) (a5_2 : Int) (l5_3 : List (S36)) : Option (Bool) := if (l0.length : Int) > 4200 then (retargetlaw19_InterpretStores.j0 k l0 a1 a2 a3 true l4_0 a4_1 a4_2 l4_3 l5_0 a5_1 a5_2 l5_3) else (if (l4_3.length : Int) > 4200 then (retargetlaw19_InterpretStores.j0 k l0 a1 a2 a3 true l4_0 a4_1 a4_2 l4_3 l5_0 a5_1 a5_2 l5_3) else (if (l5_3.length : Int) > 4200 then (retargetlaw19_InterpretStores.j0 k l0 a1 a2 a3 true l4_0 a4_1 a4_2 l4_3 l5_0 a5_1 a5_2 l5_3) else (if (l4_0.length : Int) > 4200 then (retargetlaw19_InterpretStores.j0 k l0 a1 a2 a3 true l4_0 a4_1 a4_2 l4_3 l5_0 a5_1 a5_2 l5_3) else (retargetlaw19_InterpretStores.j0 k l0 a1 a2 a3 (decide ((l5_0.length : Int) > 4200)) l4_0 a4_1 a4_2 l4_3 l5_0 a5_1 a5_2 l5_3))))
theorem retargetlaw19_InterpretStores.mono_l : ∀ k, (∀ y0 y1 y2 y3 y4 y5 y6 y7 y8 y9 y10 y11 y12, LeO (retargetlaw19_InterpretStores.j0 k y0 y1 y2 y3 y4 y5 y6 y7 y8 y9 y10 y11 y12) (retargetlaw19_InterpretStores.j0 (k + 1) y0 y1 y2 y3 y4 y5 y6 y7 y8 y9 y10 y11 y12)) ∧ (∀ y0 y1 y2 y3, LeO (retargetlaw19_InterpretStores.j1 k y0 y1 y2 y3) (retargetlaw19_InterpretStores.j1 (k + 1) y0 y1 y2 y3)) ∧ (∀ y0 y1 y2 y3 y4, LeO (retargetlaw19_InterpretStores.l0 k y0 y1 y2 y3 y4) (retargetlaw19_InterpretStores.l0 (k + 1) y0 y1 y2 y3 y4))
 | 0 => ⟨fun _ _ _ _ _ _ _ _ _ _ _ _ _ r h => by simp [retargetlaw19_InterpretStores.j0] at h, fun _ _ _ _ r h => by simp [retargetlaw19_InterpretStores.j1] at h, fun _ _ _ _ _ r h => by simp [retargetlaw19_InterpretStores.l0] at h⟩
 | k + 1 => by
  obtain ⟨ih0, ih1, ih2⟩ := retargetlaw19_InterpretStores.mono_l k
  refine ⟨?_, ?_, ?_⟩
  ·intro y0 y1 y2 y3 y4 y5 y6 y7 y8 y9 y10 y11 y12
   unfold retargetlaw19_InterpretStores.j0
   repeat' first
   | (with_reducible exact ih0 _ _ _ _ _ _ _ _ _ _ _ _ _)
   | (with_reducible exact ih1 _ _ _ _)
   | (with_reducible exact ih2 _ _ _ _ _)
   | (with_reducible exact interpret_Same.mono _ _ _ _ _ _ _ _ _)
   | (with_reducible exact interpret_Store.mono _ _ _ _ _)
   | (with_reducible exact retargetref19_Same.mono _ _ _ _ _ _ _ _ _)
   | (with_reducible exact retargetref19_SameCells.mono _ _ _)
   | (with_reducible exact retargetref19_Store.mono _ _ _ _ _)
   | (with_reducible exact LeO.refl _)
   | (with_reducible exact LeO.none _)
   | (with_reducible refine LeO.ite ?_ ?_)
   | (with_reducible refine LeO.bind ?_ (fun _ => ?_))
   | exact ih0 _ _ _ _ _ _ _ _ _ _ _ _ _
   | exact ih1 _ _ _ _
   | exact ih2 _ _ _ _ _
   | exact interpret_Same.mono _ _ _ _ _ _ _ _ _
   | exact interpret_Store.mono _ _ _ _ _
   | exact retargetref19_Same.mono _ _ _ _ _ _ _ _ _
   | exact retargetref19_SameCells.mono _ _ _
   | exact retargetref19_Store.mono _ _ _ _ _
   | exact LeO.none _
   | refine LeO.ite ?_ ?_
   | refine LeO.bind ?_ (fun _ => ?_)
  ·intro y0 y1 y2 y3
   unfold retargetlaw19_InterpretStores.j1
   repeat' first
   | (with_reducible exact ih0 _ _ _ _ _ _ _ _ _ _ _ _ _)
   | (with_reducible exact ih1 _ _ _ _)
   | (with_reducible exact ih2 _ _ _ _ _)
   | (with_reducible exact interpret_Same.mono _ _ _ _ _ _ _ _ _)
   | (with_reducible exact interpret_Store.mono _ _ _ _ _)
   | (with_reducible exact retargetref19_Same.mono _ _ _ _ _ _ _ _ _)
   | (with_reducible exact retargetref19_SameCells.mono _ _ _)
   | (with_reducible exact retargetref19_Store.mono _ _ _ _ _)
   | (with_reducible exact LeO.refl _)
   | (with_reducible exact LeO.none _)
   | (with_reducible refine LeO.ite ?_ ?_)
   | (with_reducible refine LeO.bind ?_ (fun _ => ?_))
   | exact ih0 _ _ _ _ _ _ _ _ _ _ _ _ _
   | exact ih1 _ _ _ _
   | exact ih2 _ _ _ _ _
   | exact interpret_Same.mono _ _ _ _ _ _ _ _ _
   | exact interpret_Store.mono _ _ _ _ _
   | exact retargetref19_Same.mono _ _ _ _ _ _ _ _ _
   | exact retargetref19_SameCells.mono _ _ _
   | exact retargetref19_Store.mono _ _ _ _ _
   | exact LeO.none _
   | refine LeO.ite ?_ ?_
   | refine LeO.bind ?_ (fun _ => ?_)
  ·intro y0 y1 y2 y3 y4
   unfold retargetlaw19_InterpretStores.l0
   repeat' first
   | (with_reducible exact ih0 _ _ _ _ _ _ _ _ _ _ _ _ _)
   | (with_reducible exact ih1 _ _ _ _)
   | (with_reducible exact ih2 _ _ _ _ _)
   | (with_reducible exact interpret_Same.mono _ _ _ _ _ _ _ _ _)
   | (with_reducible exact interpret_Store.mono _ _ _ _ _)
   | (with_reducible exact retargetref19_Same.mono _ _ _ _ _ _ _ _ _)
   | (with_reducible exact retargetref19_SameCells.mono _ _ _)
   | (with_reducible exact retargetref19_Store.mono _ _ _ _ _)
   | (with_reducible exact LeO.refl _)
   | (with_reducible exact LeO.none _)
   | (with_reducible refine LeO.ite ?_ ?_)
   | (with_reducible refine LeO.bind ?_ (fun _ => ?_))
   | exact ih0 _ _ _ _ _ _ _ _ _ _ _ _ _
   | exact ih1 _ _ _ _
   | exact ih2 _ _ _ _ _
   | exact interpret_Same.mono _ _ _ _ _ _ _ _ _
   | exact interpret_Store.mono _ _ _ _ _
   | exact retargetref19_Same.mono _ _ _ _ _ _ _ _ _
   | exact retargetref19_SameCells.mono _ _ _
   | exact retargetref19_Store.mono _ _ _ _ _
   | exact LeO.none _
   | refine LeO.ite ?_ ?_
   | refine LeO.bind ?_ (fun _ => ?_)
theorem retargetlaw19_InterpretStores.mono : ∀ a0 a1 a2 a3 a4 a5 a6 a7 a8 a9 a10 a11 k, LeO (retargetlaw19_InterpretStores.f k a0 a1 a2 a3 a4 a5 a6 a7 a8 a9 a10 a11) (retargetlaw19_InterpretStores.f (k + 1) a0 a1 a2 a3 a4 a5 a6 a7 a8 a9 a10 a11) := by
 intro a0 a1 a2 a3 a4 a5 a6 a7 a8 a9 a10 a11 k
 obtain ⟨ih0, ih1, ih2⟩ := retargetlaw19_InterpretStores.mono_l k
 unfold retargetlaw19_InterpretStores.f
 repeat' first
   | (with_reducible exact ih0 _ _ _ _ _ _ _ _ _ _ _ _ _)
   | (with_reducible exact ih1 _ _ _ _)
   | (with_reducible exact ih2 _ _ _ _ _)
   | (with_reducible exact interpret_Same.mono _ _ _ _ _ _ _ _ _)
   | (with_reducible exact interpret_Store.mono _ _ _ _ _)
   | (with_reducible exact retargetref19_Same.mono _ _ _ _ _ _ _ _ _)
   | (with_reducible exact retargetref19_SameCells.mono _ _ _)
   | (with_reducible exact retargetref19_Store.mono _ _ _ _ _)
   | (with_reducible exact LeO.refl _)
   | (with_reducible exact LeO.none _)
   | (with_reducible refine LeO.ite ?_ ?_)
   | (with_reducible refine LeO.bind ?_ (fun _ => ?_))
   | exact ih0 _ _ _ _ _ _ _ _ _ _ _ _ _
   | exact ih1 _ _ _ _
   | exact ih2 _ _ _ _ _
   | exact interpret_Same.mono _ _ _ _ _ _ _ _ _
   | exact interpret_Store.mono _ _ _ _ _
   | exact retargetref19_Same.mono _ _ _ _ _ _ _ _ _
   | exact retargetref19_SameCells.mono _ _ _
   | exact retargetref19_Store.mono _ _ _ _ _
   | exact LeO.none _
   | refine LeO.ite ?_ ?_
   | refine LeO.bind ?_ (fun _ => ?_)
def retargetlaw19_InterpretStores.T6 : Bool × List (List Nat × List Nat) := (true, [([], []), ([], []), ([0, 1], [0, 1]), ([2, 2], [2]), ([3], [3]), ([3], [3]), ([4, 5, 3], [3, 4, 5]), ([3, 6], [3, 6]), ([7, 3], [7]), ([8], [8]), ([8], [8]), ([9, 10, 8, 8], [8, 9, 10]), ([8], [8]), ([8], [8]), ([12, 13, 11, 8], [8, 12, 13]), ([11, 14, 8], [8, 11, 14]), ([8, 15], [8, 15]), ([16, 14], [16]), ([17], [17]), ([17], [17]), ([18, 19, 17, 17], [17, 18, 19]), ([17, 20], [17, 20]), ([21, 20, 0, 1, 2, 3, 4, 5, 6, 7, 8, 9, 10, 11, 12, 13, 14, 15, 16, 17, 18, 19, 20, 21], [21])])
def retargetlaw19_InterpretStores.B6 : List Nat := [0, 0, 3, 7, 15, 15, 63, 127, 255, 511, 511, 2047, 511, 511, 16383, 32767, 65535, 131071, 262143, 262143, 1048575, 2097151, 4194303]
theorem retargetlaw19_InterpretStores.tab6 : rtab .any (opsOf Try.f3 6) = retargetlaw19_InterpretStores.T6 := by kernel_rfl
theorem retargetlaw19_InterpretStores.bits6 : waitsOk retargetlaw19_InterpretStores.T6.2 retargetlaw19_InterpretStores.B6 = true := by kernel_rfl
set_option maxHeartbeats 8000000 in
set_option maxRecDepth 100000 in
theorem retargetlaw19_InterpretStores.calls (k : Nat) (A0 : Option Addr) (c0 : Nat) (l0 : List (S36)) (a1 : Int) (a2 : Int) (a3 : Int) (A4_0 : Option Addr) (c4_0 : Nat) (l4_0 : List Int) (a4_1 : Int) (a4_2 : Int) (A4_3 : Option Addr) (c4_3 : Nat) (l4_3 : List (S36)) (A5_0 : Option Addr) (c5_0 : Nat) (l5_0 : List Int) (a5_1 : Int) (a5_2 : Int) (A5_3 : Option Addr) (c5_3 : Nat) (l5_3 : List (S36)) (r : Bool) (w : World) (hr0 : Kd.C k36 w A0 l0.length l0) (hc0 : l0.length ≤ c0) (hr4_0 : Kd.C (Kd.int .u64) w A4_0 l4_0.length l4_0) (hc4_0 : l4_0.length ≤ c4_0) (hr4_3 : Kd.C k36 w A4_3 l4_3.length l4_3) (hc4_3 : l4_3.length ≤ c4_3) (hr5_0 : Kd.C (Kd.int .u64) w A5_0 l5_0.length l5_0) (hc5_0 : l5_0.length ≤ c5_0) (hr5_3 : Kd.C k36 w A5_3 l5_3.length l5_3) (hc5_3 : l5_3.length ≤ c5_3) (h : retargetlaw19_InterpretStores.f k l0 a1 a2 a3 l4_0 a4_1 a4_2 l4_3 l5_0 a5_1 a5_2 l5_3 = some r) :
  Calls Try.prog 3 #[.slice A0 l0.length c0, .int .u64 a1, .int .i64 a2, .int .u64 a3, .agg #[.slice A4_0 l4_0.length c4_0, .int .u8 a4_1, .int .u64 a4_2, .slice A4_3 l4_3.length c4_3], .agg #[.slice A5_0 l5_0.length c5_0, .int .u8 a5_1, .int .u64 a5_2, .slice A5_3 l5_3.length c5_3]] w fun e w' => e = .returned (.bool r) ∧ Below w.heap.size w w' := by
 have hu26 := Try.underlying26
 have HR0 := Aside0.mk hr0
 have HC0 := Aside0.mk hc0
 clear hr0 hc0
 have HR4_0 := Aside0.mk hr4_0
 have HC4_0 := Aside0.mk hc4_0
 clear hr4_0 hc4_0
 have HR4_3 := Aside0.mk hr4_3
 have HC4_3 := Aside0.mk hc4_3
 clear hr4_3 hc4_3
 have HR5_0 := Aside0.mk hr5_0
 have HC5_0 := Aside0.mk hc5_0
 clear hr5_0 hc5_0
 have HR5_3 := Aside0.mk hr5_3
 have HC5_3 := Aside0.mk hc5_3
 clear hr5_3 hc5_3
 have HB := Aside0.mk (Below.refl w.heap.size w)
 have H : (if (l0.length : Int) > 4200 then (retargetlaw19_InterpretStores.j0 k l0 a1 a2 a3 true l4_0 a4_1 a4_2 l4_3 l5_0 a5_1 a5_2 l5_3) else (if (l4_3.length : Int) > 4200 then (retargetlaw19_InterpretStores.j0 k l0 a1 a2 a3 true l4_0 a4_1 a4_2 l4_3 l5_0 a5_1 a5_2 l5_3) else (if (l5_3.length : Int) > 4200 then (retargetlaw19_InterpretStores.j0 k l0 a1 a2 a3 true l4_0 a4_1 a4_2 l4_3 l5_0 a5_1 a5_2 l5_3) else (if (l4_0.length : Int) > 4200 then (retargetlaw19_InterpretStores.j0 k l0 a1 a2 a3 true l4_0 a4_1 a4_2 l4_3 l5_0 a5_1 a5_2 l5_3) else (retargetlaw19_InterpretStores.j0 k l0 a1 a2 a3 (decide ((l5_0.length : Int) > 4200)) l4_0 a4_1 a4_2 l4_3 l5_0 a5_1 a5_2 l5_3))))) = some r := h
 clear h
 have HC7 := Aside0.mk H
 clear H
 go_enter Try.func3, Try.ntmps3
 go_upto_region 1 with (first | ((with_reducible refine gate_dst (N := 10) rfl ?_); (try (refine gate_guard (by rfl) ?_; dsimp only)); refine box_event ?hg (N := 10) ?hd (cs := #[.slice A4_0 l4_0.length c4_0, .int .u8 a4_1, .int .u64 a4_2, .slice A4_3 l4_3.length c4_3]) (t := 26) ?hr ?_; (case hd => rfl); (case hg => rfl); (case hr => first | (go_simp; done) | (go_simp; rfl)); intro gb174 hg w8 hbox hb; have n0_ := Aside0.mk (below_step q0_ hb); have n1_ := Aside0.mk (hbox); have n2_ := Aside0.mk ((by rw [hg]; exact (below_size q0_) : w.heap.size ≤ gb174)); have n3_ := Aside0.mk ((by rw [hg]; exact (below_size q0_) : w.heap.size ≤ gb174)); clear HB; have HB := n0_; have BK174 := n1_; have GW174 := n2_; have GE174 := n3_; clear n0_ n1_ n2_ n3_; clear hb hbox hg) | ((with_reducible refine gate_dst (N := 11) rfl ?_); (try (refine gate_guard (by rfl) ?_; dsimp only)); refine box_event ?hg (N := 11) ?hd (cs := #[.slice A5_0 l5_0.length c5_0, .int .u8 a5_1, .int .u64 a5_2, .slice A5_3 l5_3.length c5_3]) (t := 26) ?hr ?_; (case hd => rfl); (case hg => rfl); (case hr => first | (go_simp; done) | (go_simp; rfl)); intro gb175 hg w9 hbox hb; have n0_ := Aside0.mk (blk_below (g := gb174) (o := .cells #[.slice A4_0 l4_0.length c4_0, .int .u8 a4_1, .int .u64 a4_2, .slice A4_3 l4_3.length c4_3] 26 (0, 0)) q9_ hb); have n1_ := Aside0.mk (below_step (by repeat (first | (with_reducible first | exact HB.out | apply below_alloc | apply pw_below_drewN | apply below_drew1 | refine below_set ?_ GE174.out) | exact HB.out)) hb); have n2_ := Aside0.mk (hbox); have n3_ := Aside0.mk ((by rw [hg]; exact (below_size (by repeat (first | (with_reducible first | exact HB.out | apply below_alloc | apply pw_below_drewN | apply below_drew1 | refine below_set ?_ GE174.out) | exact HB.out))) : w.heap.size ≤ gb175)); have n4_ := Aside0.mk ((by rw [hg]; exact (below_size (by repeat (first | (with_reducible first | exact HB.out | apply below_alloc | apply pw_below_drewN | apply below_drew1 | refine below_set ?_ GE174.out) | exact HB.out))) : w.heap.size ≤ gb175)); have n5_ := Aside0.mk ((by rw [hg]; exact Nat.ne_of_lt (blk_lt (g := gb174) (o := .cells #[.slice A4_0 l4_0.length c4_0, .int .u8 a4_1, .int .u64 a4_2, .slice A4_3 l4_3.length c4_3] 26 (0, 0)) q9_) : gb174 ≠ gb175)); have n6_ := Aside0.mk ((by rw [hg]; exact Nat.ne_of_gt (blk_lt (g := gb174) (o := .cells #[.slice A4_0 l4_0.length c4_0, .int .u8 a4_1, .int .u64 a4_2, .slice A4_3 l4_3.length c4_3] 26 (0, 0)) q9_) : gb175 ≠ gb174)); clear BK174; clear HB; have BK174 := n0_; have HB := n1_; have BK175 := n2_; have GW175 := n3_; have GE175 := n4_; have NB174_175 := n5_; have NB175_174 := n6_; clear n0_ n1_ n2_ n3_ n4_ n5_ n6_; clear hb hbox hg))
 (try simp only [Act.put, List.setIfInBounds_toArray, List.set_cons_zero, List.set_cons_succ])
 go_cut [46] (fun v46 wc => ∃ (kq : Nat) (x46_6 : Bool), v46 = .bool x46_6 ∧ Aside0 (retargetlaw19_InterpretStores.j0 kq l0 a1 a2 a3 x46_6 l4_0 a4_1 a4_2 l4_3 l5_0 a5_1 a5_2 l5_3 = some r) ∧ Aside0 (kq ≤ k) ∧ Aside0 (wc.heap[gb174]? = some (.cells #[(.slice A4_0 l4_0.length c4_0), .int .u8 a4_1, .int .u64 a4_2, (.slice A4_3 l4_3.length c4_3)] 26 (0, 0))) ∧ Aside0 (wc.heap[gb175]? = some (.cells #[(.slice A5_0 l5_0.length c5_0), .int .u8 a5_1, .int .u64 a5_2, (.slice A5_3 l5_3.length c5_3)] 26 (0, 0))) ∧ Aside0 (Below w.heap.size w wc))
 case first =>
  have H := HC7.out
  clear HC7
  by_cases c10 : (l0.length : Int) > 4200
  ·rw [if_pos c10] at H
   have c10b0 : decide (4200 < (l0.length : Int)) = true := decide_eq_true c10
   have c10b1 : decide (4200 < l0.length) = true := decide_eq_true (by omega)
   clear c10
   (first | rw [c10b0] | (simp only [i64_w, i32_w]; rw [c10b0]) | skip)
   have H' := Aside0.mk H
   clear H
   go_wp2
   go_meet
   case rel => exact ⟨_, (true), q4_, H', ⟨by first | omega | exact Nat.le_refl _⟩, ⟨by (with_reducible repeat (first | refine blk_drewN ?_ _ | refine blk_drew ?_ | refine blk_alloc ?_ _)); exact BK174.out⟩, ⟨by (with_reducible repeat (first | refine blk_drewN ?_ _ | refine blk_drew ?_ | refine blk_alloc ?_ _)); exact BK175.out⟩, ⟨by repeat (first | (with_reducible first | exact HB.out | apply below_alloc | apply pw_below_drewN | apply below_drew1 | refine below_set ?_ GE174.out | refine below_set ?_ GE175.out) | exact HB.out)⟩⟩
  ·rw [if_neg c10] at H
   have c10b0 : decide (4200 < (l0.length : Int)) = false := decide_eq_false c10
   have c10b1 : decide (4200 < l0.length) = false := decide_eq_false (by omega)
   clear c10
   (first | rw [c10b0] | (simp only [i64_w, i32_w]; rw [c10b0]) | skip)
   by_cases c11 : (l4_3.length : Int) > 4200
   ·rw [if_pos c11] at H
    have c11b0 : decide (4200 < (l4_3.length : Int)) = true := decide_eq_true c11
    have c11b1 : decide (4200 < l4_3.length) = true := decide_eq_true (by omega)
    clear c11
    have H' := Aside0.mk H
    clear H
    have hnb12 := NB174_175.out
    have hnc12 := NB175_174.out
    have hcz13_0 : w9.cell? ⟨gb174, 0, none⟩ = some (.slice A4_0 l4_0.length c4_0) := (blk_cell BK174.out 0).trans rfl
    have hcz13_1 : w9.cell? ⟨gb174, 1, none⟩ = some (.int .u8 a4_1) := (blk_cell BK174.out 1).trans rfl
    have hcz13_2 : w9.cell? ⟨gb174, 2, none⟩ = some (.int .u64 a4_2) := (blk_cell BK174.out 2).trans rfl
    have hcz13_3 : w9.cell? ⟨gb174, 3, none⟩ = some (.slice A4_3 l4_3.length c4_3) := (blk_cell BK174.out 3).trans rfl
    have hfz13_0 := blk_frozen BK174.out 0
    have hfz13_1 := blk_frozen BK174.out 1
    have hfz13_2 := blk_frozen BK174.out 2
    have hfz13_3 := blk_frozen BK174.out 3
    go_wp2
    go_meet
    case rel => exact ⟨_, (true), q4_, H', ⟨by first | omega | exact Nat.le_refl _⟩, ⟨by (with_reducible repeat (first | refine blk_drewN ?_ _ | refine blk_drew ?_ | refine blk_alloc ?_ _)); exact BK174.out⟩, ⟨by (with_reducible repeat (first | refine blk_drewN ?_ _ | refine blk_drew ?_ | refine blk_alloc ?_ _)); exact BK175.out⟩, ⟨by repeat (first | (with_reducible first | exact HB.out | apply below_alloc | apply pw_below_drewN | apply below_drew1 | refine below_set ?_ GE174.out | refine below_set ?_ GE175.out) | exact HB.out)⟩⟩
   ·rw [if_neg c11] at H
    have c11b0 : decide (4200 < (l4_3.length : Int)) = false := decide_eq_false c11
    have c11b1 : decide (4200 < l4_3.length) = false := decide_eq_false (by omega)
    clear c11
    by_cases c14 : (l5_3.length : Int) > 4200
    ·rw [if_pos c14] at H
     have c14b0 : decide (4200 < (l5_3.length : Int)) = true := decide_eq_true c14
     have c14b1 : decide (4200 < l5_3.length) = true := decide_eq_true (by omega)
     clear c14
     have H' := Aside0.mk H
     clear H
     have hnb15 := NB174_175.out
     have hnc15 := NB175_174.out
     have hcz16_0 : w9.cell? ⟨gb174, 0, none⟩ = some (.slice A4_0 l4_0.length c4_0) := (blk_cell BK174.out 0).trans rfl
     have hcz16_1 : w9.cell? ⟨gb174, 1, none⟩ = some (.int .u8 a4_1) := (blk_cell BK174.out 1).trans rfl
     have hcz16_2 : w9.cell? ⟨gb174, 2, none⟩ = some (.int .u64 a4_2) := (blk_cell BK174.out 2).trans rfl
     have hcz16_3 : w9.cell? ⟨gb174, 3, none⟩ = some (.slice A4_3 l4_3.length c4_3) := (blk_cell BK174.out 3).trans rfl
     have hfz16_0 := blk_frozen BK174.out 0
     have hfz16_1 := blk_frozen BK174.out 1
     have hfz16_2 := blk_frozen BK174.out 2
     have hfz16_3 := blk_frozen BK174.out 3
     have hcz17_0 : w9.cell? ⟨gb175, 0, none⟩ = some (.slice A5_0 l5_0.length c5_0) := (blk_cell BK175.out 0).trans rfl
     have hcz17_1 : w9.cell? ⟨gb175, 1, none⟩ = some (.int .u8 a5_1) := (blk_cell BK175.out 1).trans rfl
     have hcz17_2 : w9.cell? ⟨gb175, 2, none⟩ = some (.int .u64 a5_2) := (blk_cell BK175.out 2).trans rfl
     have hcz17_3 : w9.cell? ⟨gb175, 3, none⟩ = some (.slice A5_3 l5_3.length c5_3) := (blk_cell BK175.out 3).trans rfl
     have hfz17_0 := blk_frozen BK175.out 0
     have hfz17_1 := blk_frozen BK175.out 1
     have hfz17_2 := blk_frozen BK175.out 2
     have hfz17_3 := blk_frozen BK175.out 3
     go_wp2
     go_meet
     case rel => exact ⟨_, (true), q4_, H', ⟨by first | omega | exact Nat.le_refl _⟩, ⟨by (with_reducible repeat (first | refine blk_drewN ?_ _ | refine blk_drew ?_ | refine blk_alloc ?_ _)); exact BK174.out⟩, ⟨by (with_reducible repeat (first | refine blk_drewN ?_ _ | refine blk_drew ?_ | refine blk_alloc ?_ _)); exact BK175.out⟩, ⟨by repeat (first | (with_reducible first | exact HB.out | apply below_alloc | apply pw_below_drewN | apply below_drew1 | refine below_set ?_ GE174.out | refine below_set ?_ GE175.out) | exact HB.out)⟩⟩
    ·rw [if_neg c14] at H
     have c14b0 : decide (4200 < (l5_3.length : Int)) = false := decide_eq_false c14
     have c14b1 : decide (4200 < l5_3.length) = false := decide_eq_false (by omega)
     clear c14
     by_cases c18 : (l4_0.length : Int) > 4200
     ·rw [if_pos c18] at H
      have c18b0 : decide (4200 < (l4_0.length : Int)) = true := decide_eq_true c18
      have c18b1 : decide (4200 < l4_0.length) = true := decide_eq_true (by omega)
      clear c18
      have H' := Aside0.mk H
      clear H
      have hnb19 := NB174_175.out
      have hnc19 := NB175_174.out
      have hcz20_0 : w9.cell? ⟨gb174, 0, none⟩ = some (.slice A4_0 l4_0.length c4_0) := (blk_cell BK174.out 0).trans rfl
      have hcz20_1 : w9.cell? ⟨gb174, 1, none⟩ = some (.int .u8 a4_1) := (blk_cell BK174.out 1).trans rfl
      have hcz20_2 : w9.cell? ⟨gb174, 2, none⟩ = some (.int .u64 a4_2) := (blk_cell BK174.out 2).trans rfl
      have hcz20_3 : w9.cell? ⟨gb174, 3, none⟩ = some (.slice A4_3 l4_3.length c4_3) := (blk_cell BK174.out 3).trans rfl
      have hfz20_0 := blk_frozen BK174.out 0
      have hfz20_1 := blk_frozen BK174.out 1
      have hfz20_2 := blk_frozen BK174.out 2
      have hfz20_3 := blk_frozen BK174.out 3
      have hcz21_0 : w9.cell? ⟨gb175, 0, none⟩ = some (.slice A5_0 l5_0.length c5_0) := (blk_cell BK175.out 0).trans rfl
      have hcz21_1 : w9.cell? ⟨gb175, 1, none⟩ = some (.int .u8 a5_1) := (blk_cell BK175.out 1).trans rfl
      have hcz21_2 : w9.cell? ⟨gb175, 2, none⟩ = some (.int .u64 a5_2) := (blk_cell BK175.out 2).trans rfl
      have hcz21_3 : w9.cell? ⟨gb175, 3, none⟩ = some (.slice A5_3 l5_3.length c5_3) := (blk_cell BK175.out 3).trans rfl
      have hfz21_0 := blk_frozen BK175.out 0
      have hfz21_1 := blk_frozen BK175.out 1
      have hfz21_2 := blk_frozen BK175.out 2
      have hfz21_3 := blk_frozen BK175.out 3
      go_wp2
      go_meet
      case rel => exact ⟨_, (true), q4_, H', ⟨by first | omega | exact Nat.le_refl _⟩, ⟨by (with_reducible repeat (first | refine blk_drewN ?_ _ | refine blk_drew ?_ | refine blk_alloc ?_ _)); exact BK174.out⟩, ⟨by (with_reducible repeat (first | refine blk_drewN ?_ _ | refine blk_drew ?_ | refine blk_alloc ?_ _)); exact BK175.out⟩, ⟨by repeat (first | (with_reducible first | exact HB.out | apply below_alloc | apply pw_below_drewN | apply below_drew1 | refine below_set ?_ GE174.out | refine below_set ?_ GE175.out) | exact HB.out)⟩⟩
     ·rw [if_neg c18] at H
      have c18b0 : decide (4200 < (l4_0.length : Int)) = false := decide_eq_false c18
      have c18b1 : decide (4200 < l4_0.length) = false := decide_eq_false (by omega)
      clear c18
      have H' := Aside0.mk H
      clear H
      have hnb22 := NB174_175.out
      have hnc22 := NB175_174.out
      have hcz23_0 : w9.cell? ⟨gb174, 0, none⟩ = some (.slice A4_0 l4_0.length c4_0) := (blk_cell BK174.out 0).trans rfl
      have hcz23_1 : w9.cell? ⟨gb174, 1, none⟩ = some (.int .u8 a4_1) := (blk_cell BK174.out 1).trans rfl
      have hcz23_2 : w9.cell? ⟨gb174, 2, none⟩ = some (.int .u64 a4_2) := (blk_cell BK174.out 2).trans rfl
      have hcz23_3 : w9.cell? ⟨gb174, 3, none⟩ = some (.slice A4_3 l4_3.length c4_3) := (blk_cell BK174.out 3).trans rfl
      have hfz23_0 := blk_frozen BK174.out 0
      have hfz23_1 := blk_frozen BK174.out 1
      have hfz23_2 := blk_frozen BK174.out 2
      have hfz23_3 := blk_frozen BK174.out 3
      have hcz24_0 : w9.cell? ⟨gb175, 0, none⟩ = some (.slice A5_0 l5_0.length c5_0) := (blk_cell BK175.out 0).trans rfl
      have hcz24_1 : w9.cell? ⟨gb175, 1, none⟩ = some (.int .u8 a5_1) := (blk_cell BK175.out 1).trans rfl
      have hcz24_2 : w9.cell? ⟨gb175, 2, none⟩ = some (.int .u64 a5_2) := (blk_cell BK175.out 2).trans rfl
      have hcz24_3 : w9.cell? ⟨gb175, 3, none⟩ = some (.slice A5_3 l5_3.length c5_3) := (blk_cell BK175.out 3).trans rfl
      have hfz24_0 := blk_frozen BK175.out 0
      have hfz24_1 := blk_frozen BK175.out 1
      have hfz24_2 := blk_frozen BK175.out 2
      have hfz24_3 := blk_frozen BK175.out 3
      go_wp2
      go_meet
      case rel => exact ⟨_, (decide ((l5_0.length : Int) > 4200)), q4_, H', ⟨by first | omega | exact Nat.le_refl _⟩, ⟨by (with_reducible repeat (first | refine blk_drewN ?_ _ | refine blk_drew ?_ | refine blk_alloc ?_ _)); exact BK174.out⟩, ⟨by (with_reducible repeat (first | refine blk_drewN ?_ _ | refine blk_drew ?_ | refine blk_alloc ?_ _)); exact BK175.out⟩, ⟨by repeat (first | (with_reducible first | exact HB.out | apply below_alloc | apply pw_below_drewN | apply below_drew1 | refine below_set ?_ GE174.out | refine below_set ?_ GE175.out) | exact HB.out)⟩⟩
 case rest =>
  clear HC7
  try clear c1
  try clear c2
  try clear p2
  try clear c3
  try clear c4
  try clear c5
  try clear c10
  try clear c10b0
  try clear c10b1
  try clear c11
  try clear c11b0
  try clear c11b1
  try clear c12
  try clear c14
  try clear c14b0
  try clear c14b1
  try clear c15
  try clear c18
  try clear c18b0
  try clear c18b1
  try clear c19
  try clear c22
  try clear hcz13_0
  try clear hcz13_1
  try clear hcz13_2
  try clear hcz13_3
  try clear hcz16_0
  try clear hcz16_1
  try clear hcz16_2
  try clear hcz16_3
  try clear hcz17_0
  try clear hcz17_1
  try clear hcz17_2
  try clear hcz17_3
  try clear hcz20_0
  try clear hcz20_1
  try clear hcz20_2
  try clear hcz20_3
  try clear hcz21_0
  try clear hcz21_1
  try clear hcz21_2
  try clear hcz21_3
  try clear hcz23_0
  try clear hcz23_1
  try clear hcz23_2
  try clear hcz23_3
  try clear hcz24_0
  try clear hcz24_1
  try clear hcz24_2
  try clear hcz24_3
  try clear hfz13_0
  try clear hfz13_1
  try clear hfz13_2
  try clear hfz13_3
  try clear hfz16_0
  try clear hfz16_1
  try clear hfz16_2
  try clear hfz16_3
  try clear hfz17_0
  try clear hfz17_1
  try clear hfz17_2
  try clear hfz17_3
  try clear hfz20_0
  try clear hfz20_1
  try clear hfz20_2
  try clear hfz20_3
  try clear hfz21_0
  try clear hfz21_1
  try clear hfz21_2
  try clear hfz21_3
  try clear hfz23_0
  try clear hfz23_1
  try clear hfz23_2
  try clear hfz23_3
  try clear hfz24_0
  try clear hfz24_1
  try clear hfz24_2
  try clear hfz24_3
  obtain ⟨kq, x46_6, rfl, HA, HJ6, BK174, BK175, HB⟩ := hcut
  cases kq with
  | zero => exact absurd HA.out (by simp [retargetlaw19_InterpretStores.j0])
  | succ kj6 =>
   have H := HA.out
   clear HA
   simp only [retargetlaw19_InterpretStores.j0] at H
   by_cases c25 : x46_6 = true
   ·subst c25
    have H1 : (some true) = some r := by rw [if_pos rfl] at H; exact H
    clear H
    have H := H1
    clear H1
    obtain rfl := Option.some.inj H
    go_wp2
    go_ret
    exact ⟨by first | rfl | (simp [errW_none, errW_some] <;> rfl) | (simp [*, errW_none, errW_some] <;> rfl), by repeat (first | (with_reducible first | exact HB.out | apply below_alloc | apply pw_below_drewN | apply below_drew1 | refine below_set ?_ GE174.out | refine below_set ?_ GE175.out) | exact HB.out)⟩
   ·replace c25 := Bool.eq_false_iff.mpr c25
    subst c25
    have H1 : ((retargetref19_TwinCells.f l0).bind fun t176 => ((interpret_Store.f kj6 t176 a1 a2 a3).bind fun bt179 => ((retargetref19_Store.f kj6 l0 a1 a2 a3).bind fun bt183 => ((retargetref19_SameCells.f kj6 bt179.1 bt183.1).bind fun t187 => (if t187 = true then (if bt179.2 = bt183.2 then ((interpret_Same.f kj6 l4_0 a4_1 a4_2 l4_3 l5_0 a5_1 a5_2 l5_3).bind fun t188 => ((retargetref19_Same.f kj6 l4_0 a4_1 a4_2 l4_3 l5_0 a5_1 a5_2 l5_3).bind fun t189 => (if (t188 == t189) = true then ((interpret_Same.f kj6 l4_0 a4_1 a4_2 l4_3 l4_0 a4_1 a4_2 l4_3).bind fun t190 => (retargetlaw19_InterpretStores.j1 kj6 l0 t176 bt179.1 t190)) else (retargetlaw19_InterpretStores.j1 kj6 l0 t176 bt179.1 false)))) else (retargetlaw19_InterpretStores.j1 kj6 l0 t176 bt179.1 false)) else (retargetlaw19_InterpretStores.j1 kj6 l0 t176 bt179.1 false)))))) = some r := by rw [if_neg (show ¬ (false = true) by decide)] at H; exact H
    clear H
    have H := H1
    clear H1
    replace H := Option.bind_eq_some_iff.mp H
    obtain ⟨t176, A260, H⟩ := H
    replace H : ((interpret_Store.f kj6 t176 a1 a2 a3).bind fun bt179 => ((retargetref19_Store.f kj6 l0 a1 a2 a3).bind fun bt183 => ((retargetref19_SameCells.f kj6 bt179.1 bt183.1).bind fun t187 => (if t187 = true then (if bt179.2 = bt183.2 then ((interpret_Same.f kj6 l4_0 a4_1 a4_2 l4_3 l5_0 a5_1 a5_2 l5_3).bind fun t188 => ((retargetref19_Same.f kj6 l4_0 a4_1 a4_2 l4_3 l5_0 a5_1 a5_2 l5_3).bind fun t189 => (if (t188 == t189) = true then ((interpret_Same.f kj6 l4_0 a4_1 a4_2 l4_3 l4_0 a4_1 a4_2 l4_3).bind fun t190 => (retargetlaw19_InterpretStores.j1 kj6 l0 t176 bt179.1 t190)) else (retargetlaw19_InterpretStores.j1 kj6 l0 t176 bt179.1 false)))) else (retargetlaw19_InterpretStores.j1 kj6 l0 t176 bt179.1 false)) else (retargetlaw19_InterpretStores.j1 kj6 l0 t176 bt179.1 false))))) = some r := H
    have A26 := Aside0.mk A260
    clear A260
    replace H := Option.bind_eq_some_iff.mp H
    obtain ⟨⟨t179, t180⟩, A270, H⟩ := H
    replace H : ((retargetref19_Store.f kj6 l0 a1 a2 a3).bind fun bt183 => ((retargetref19_SameCells.f kj6 t179 bt183.1).bind fun t187 => (if t187 = true then (if t180 = bt183.2 then ((interpret_Same.f kj6 l4_0 a4_1 a4_2 l4_3 l5_0 a5_1 a5_2 l5_3).bind fun t188 => ((retargetref19_Same.f kj6 l4_0 a4_1 a4_2 l4_3 l5_0 a5_1 a5_2 l5_3).bind fun t189 => (if (t188 == t189) = true then ((interpret_Same.f kj6 l4_0 a4_1 a4_2 l4_3 l4_0 a4_1 a4_2 l4_3).bind fun t190 => (retargetlaw19_InterpretStores.j1 kj6 l0 t176 t179 t190)) else (retargetlaw19_InterpretStores.j1 kj6 l0 t176 t179 false)))) else (retargetlaw19_InterpretStores.j1 kj6 l0 t176 t179 false)) else (retargetlaw19_InterpretStores.j1 kj6 l0 t176 t179 false)))) = some r := H
    have A27 := Aside0.mk A270
    clear A270
    replace H := Option.bind_eq_some_iff.mp H
    obtain ⟨⟨t183, t184⟩, A280, H⟩ := H
    replace H : ((retargetref19_SameCells.f kj6 t179 t183).bind fun t187 => (if t187 = true then (if t180 = t184 then ((interpret_Same.f kj6 l4_0 a4_1 a4_2 l4_3 l5_0 a5_1 a5_2 l5_3).bind fun t188 => ((retargetref19_Same.f kj6 l4_0 a4_1 a4_2 l4_3 l5_0 a5_1 a5_2 l5_3).bind fun t189 => (if (t188 == t189) = true then ((interpret_Same.f kj6 l4_0 a4_1 a4_2 l4_3 l4_0 a4_1 a4_2 l4_3).bind fun t190 => (retargetlaw19_InterpretStores.j1 kj6 l0 t176 t179 t190)) else (retargetlaw19_InterpretStores.j1 kj6 l0 t176 t179 false)))) else (retargetlaw19_InterpretStores.j1 kj6 l0 t176 t179 false)) else (retargetlaw19_InterpretStores.j1 kj6 l0 t176 t179 false))) = some r := H
    have A28 := Aside0.mk A280
    clear A280
    have HC29 := Aside0.mk H
    clear H
    go_upto_region 6 with (first | ((with_reducible refine gate_callee (f := 4) rfl ?_); refine goesL_ (some 48) rfl rfl Try.func4 (by kernel_rfl) rfl #[.slice A0 l0.length c0] rfl q1_ ?_; (with_reducible refine (retargetref19_TwinCells.calls _ _ l0 t176 _ ?side1 ?side2 A26.out).mono ?_); (case side1 => repeat (first | exact (Kd.C_below HR0.out HB.out) | (with_reducible refine Kd.C_alloc ?_ _) | (with_reducible refine Kd.C_drewN ?_ _) | (with_reducible refine Kd.C_drew ?_))); (case side2 => exact HC0.out); rintro e w30 ⟨v177, rfl, ho0, hb⟩; refine ⟨_, rfl, ?_⟩; have n0_ := Aside0.mk (Kd.R_lower ho0 (below_size q3_)); have n1_ := Aside0.mk (blk_below (g := gb174) (o := .cells #[.slice A4_0 l4_0.length c4_0, .int .u8 a4_1, .int .u64 a4_2, .slice A4_3 l4_3.length c4_3] 26 (0, 0)) q9_ hb); have n2_ := Aside0.mk (blk_below (g := gb175) (o := .cells #[.slice A5_0 l5_0.length c5_0, .int .u8 a5_1, .int .u64 a5_2, .slice A5_3 l5_3.length c5_3] 26 (0, 0)) q13_ hb); have n3_ := Aside0.mk (below_step q3_ hb); clear BK174; clear BK175; clear HB; have HO178 := n0_; have BK174 := n1_; have BK175 := n2_; have HB := n3_; clear n0_ n1_ n2_ n3_; (try clear hb); (try clear hb2); (try clear hk); (try clear hi); (try clear ho0); obtain ⟨Ao31, co31, eo31⟩ := Kd.R_slice HO178.out; subst eo31) | ((with_reducible refine gate_callee (f := 5) rfl ?_); refine goesL_ (some 54) rfl rfl Try.func5 (by kernel_rfl) rfl #[.slice Ao31 t176.length co31, .int .u64 a1, .int .i64 a2, .int .u64 a3] rfl q1_ ?_; (with_reducible refine (interpret_Store.calls kj6 _ _ t176 a1 a2 a3 t179 t180 _ ?side1 ?side2 A27.out).mono ?_); (case side1 => repeat (first | exact (Kd.R_reads' HO178.out).2.2 | (with_reducible refine Kd.C_alloc ?_ _) | (with_reducible refine Kd.C_drewN ?_ _) | (with_reducible refine Kd.C_drew ?_))); (case side2 => exact (Kd.R_reads' HO178.out).2.1); rintro e w32 ⟨v181, rfl, ho0, hb⟩; refine ⟨_, rfl, ?_⟩; have n0_ := Aside0.mk (Kd.R_elder' q14_ (Kd.R_base ho0) hb); have n1_ := Aside0.mk (Kd.R_lower (Kd.R_new' ho0 (Kd.R_lt q14_)) (below_size q3_)); have n2_ := Aside0.mk (blk_below (g := gb174) (o := .cells #[.slice A4_0 l4_0.length c4_0, .int .u8 a4_1, .int .u64 a4_2, .slice A4_3 l4_3.length c4_3] 26 (0, 0)) q9_ hb); have n3_ := Aside0.mk (blk_below (g := gb175) (o := .cells #[.slice A5_0 l5_0.length c5_0, .int .u8 a5_1, .int .u64 a5_2, .slice A5_3 l5_3.length c5_3] 26 (0, 0)) q13_ hb); have n4_ := Aside0.mk (below_step q3_ hb); clear HO178; clear BK174; clear BK175; clear HB; have HO178 := n0_; have HO182 := n1_; have BK174 := n2_; have BK175 := n3_; have HB := n4_; clear n0_ n1_ n2_ n3_ n4_; (try clear hb); (try clear hb2); (try clear hk); (try clear hi); (try clear ho0)) | ((with_reducible refine gate_callee (f := 6) rfl ?_); refine goesL_ (some 62) rfl rfl Try.func6 (by kernel_rfl) rfl #[.slice A0 l0.length c0, .int .u64 a1, .int .i64 a2, .int .u64 a3] rfl q1_ ?_; (with_reducible refine (retargetref19_Store.calls kj6 _ _ l0 a1 a2 a3 t183 t184 _ ?side1 ?side2 A28.out).mono ?_); (case side1 => repeat (first | exact (Kd.C_below HR0.out HB.out) | (with_reducible refine Kd.C_alloc ?_ _) | (with_reducible refine Kd.C_drewN ?_ _) | (with_reducible refine Kd.C_drew ?_))); (case side2 => exact HC0.out); rintro e w33 ⟨v185, rfl, ho0, hb⟩; refine ⟨_, rfl, ?_⟩; have n0_ := Aside0.mk (Kd.R_elder' q14_ (Kd.R_base ho0) hb); have n1_ := Aside0.mk (Kd.R_elder' q16_ (Kd.R_base ho0) hb); have n2_ := Aside0.mk (Kd.R_lower (Kd.R_new' (Kd.R_new' ho0 (Kd.R_lt q14_)) (Kd.R_lt q16_)) (below_size q3_)); have n3_ := Aside0.mk (blk_below (g := gb174) (o := .cells #[.slice A4_0 l4_0.length c4_0, .int .u8 a4_1, .int .u64 a4_2, .slice A4_3 l4_3.length c4_3] 26 (0, 0)) q9_ hb); have n4_ := Aside0.mk (blk_below (g := gb175) (o := .cells #[.slice A5_0 l5_0.length c5_0, .int .u8 a5_1, .int .u64 a5_2, .slice A5_3 l5_3.length c5_3] 26 (0, 0)) q13_ hb); have n5_ := Aside0.mk (below_step q3_ hb); clear HO178; clear HO182; clear BK174; clear BK175; clear HB; have HO178 := n0_; have HO182 := n1_; have HO186 := n2_; have BK174 := n3_; have BK175 := n4_; have HB := n5_; clear n0_ n1_ n2_ n3_ n4_ n5_; (try clear hb); (try clear hb2); (try clear hk); (try clear hi); (try clear ho0)))
    (try simp only [Act.put, List.setIfInBounds_toArray, List.set_cons_zero, List.set_cons_succ])
    go_cut [18] (fun v18 wc => ∃ (kq : Nat) (x18_28 : Bool), v18 = .bool x18_28 ∧ Aside0 (retargetlaw19_InterpretStores.j1 kq l0 t176 t179 x18_28 = some r) ∧ Aside0 (kq ≤ kj6) ∧ Aside0 (Kd.R k36 36 wc w.heap.size (fun k_ => some k_ ≠ (v181 : Value).ownBlock) (.slice Ao31 t176.length co31) t176) ∧ Aside0 (Kd.R k36 36 wc w.heap.size (fun k_ => some k_ ≠ ((.slice Ao31 t176.length co31) : Value).ownBlock) v181 t179) ∧ Aside0 (wc.heap[gb174]? = some (.cells #[(.slice A4_0 l4_0.length c4_0), .int .u8 a4_1, .int .u64 a4_2, (.slice A4_3 l4_3.length c4_3)] 26 (0, 0))) ∧ Aside0 (wc.heap[gb175]? = some (.cells #[(.slice A5_0 l5_0.length c5_0), .int .u8 a5_1, .int .u64 a5_2, (.slice A5_3 l5_3.length c5_3)] 26 (0, 0))) ∧ Aside0 (Below w.heap.size w wc))
    case first =>
     have H := HC29.out
     clear HC29
     replace H := Option.bind_eq_some_iff.mp H
     obtain ⟨t187, A340, H⟩ := H
     replace H : (if t187 = true then (if t180 = t184 then ((interpret_Same.f kj6 l4_0 a4_1 a4_2 l4_3 l5_0 a5_1 a5_2 l5_3).bind fun t188 => ((retargetref19_Same.f kj6 l4_0 a4_1 a4_2 l4_3 l5_0 a5_1 a5_2 l5_3).bind fun t189 => (if (t188 == t189) = true then ((interpret_Same.f kj6 l4_0 a4_1 a4_2 l4_3 l4_0 a4_1 a4_2 l4_3).bind fun t190 => (retargetlaw19_InterpretStores.j1 kj6 l0 t176 t179 t190)) else (retargetlaw19_InterpretStores.j1 kj6 l0 t176 t179 false)))) else (retargetlaw19_InterpretStores.j1 kj6 l0 t176 t179 false)) else (retargetlaw19_InterpretStores.j1 kj6 l0 t176 t179 false)) = some r := H
     have A34 := Aside0.mk A340
     clear A340
     by_cases c35 : t187 = true
     ·subst c35
      have H1 : (if t180 = t184 then ((interpret_Same.f kj6 l4_0 a4_1 a4_2 l4_3 l5_0 a5_1 a5_2 l5_3).bind fun t188 => ((retargetref19_Same.f kj6 l4_0 a4_1 a4_2 l4_3 l5_0 a5_1 a5_2 l5_3).bind fun t189 => (if (t188 == t189) = true then ((interpret_Same.f kj6 l4_0 a4_1 a4_2 l4_3 l4_0 a4_1 a4_2 l4_3).bind fun t190 => (retargetlaw19_InterpretStores.j1 kj6 l0 t176 t179 t190)) else (retargetlaw19_InterpretStores.j1 kj6 l0 t176 t179 false)))) else (retargetlaw19_InterpretStores.j1 kj6 l0 t176 t179 false)) = some r := by rw [if_pos rfl] at H; exact H
      clear H
      have H := H1
      clear H1
      by_cases c36 : t180 = t184
      ·rw [if_pos c36] at H
       have c36b0 : (t180 == t184) = true := beq_iff_eq.mpr c36
       have c36b1 : (t180 != t184) = false := bne_eq_false_iff_eq.mpr c36
       clear c36
       (first | rw [c36b0] | (simp only [i64_w, i32_w]; rw [c36b0]) | skip)
       replace H := Option.bind_eq_some_iff.mp H
       obtain ⟨t188, A370, H⟩ := H
       replace H : ((retargetref19_Same.f kj6 l4_0 a4_1 a4_2 l4_3 l5_0 a5_1 a5_2 l5_3).bind fun t189 => (if (t188 == t189) = true then ((interpret_Same.f kj6 l4_0 a4_1 a4_2 l4_3 l4_0 a4_1 a4_2 l4_3).bind fun t190 => (retargetlaw19_InterpretStores.j1 kj6 l0 t176 t179 t190)) else (retargetlaw19_InterpretStores.j1 kj6 l0 t176 t179 false))) = some r := H
       have A37 := Aside0.mk A370
       clear A370
       replace H := Option.bind_eq_some_iff.mp H
       obtain ⟨t189, A380, H⟩ := H
       replace H : (if (t188 == t189) = true then ((interpret_Same.f kj6 l4_0 a4_1 a4_2 l4_3 l4_0 a4_1 a4_2 l4_3).bind fun t190 => (retargetlaw19_InterpretStores.j1 kj6 l0 t176 t179 t190)) else (retargetlaw19_InterpretStores.j1 kj6 l0 t176 t179 false)) = some r := H
       have A38 := Aside0.mk A380
       clear A380
       by_cases c39 : (t188 == t189) = true
       ·rw [if_pos c39] at H
        have c39b0 : (t188 == t189) = true := c39
        (try (have c39b1 : decide (t188 = t189) = true := by simpa using c39))
        (try (have c39b2 : (t188 == t189) = true := by simpa using c39))
        clear c39
        replace H := Option.bind_eq_some_iff.mp H
        obtain ⟨t190, A400, H⟩ := H
        replace H : (retargetlaw19_InterpretStores.j1 kj6 l0 t176 t179 t190) = some r := H
        have A40 := Aside0.mk A400
        clear A400
        have H' := Aside0.mk H
        clear H
        try go_wp2
        have n0_ := Aside0.mk (Kd.R_drew HO178.out)
        have n1_ := Aside0.mk (Kd.R_drew HO182.out)
        have n2_ := Aside0.mk (Kd.R_drew HO186.out)
        have n3_ := Aside0.mk (blk_drew BK174.out)
        have n4_ := Aside0.mk (blk_drew BK175.out)
        have n5_ := Aside0.mk (below_drew1 HB.out)
        clear HO178
        clear HO182
        clear HO186
        clear BK174
        clear BK175
        clear HB
        have HO178 := n0_
        have HO182 := n1_
        have HO186 := n2_
        have BK174 := n3_
        have BK175 := n4_
        have HB := n5_
        clear n0_ n1_ n2_ n3_ n4_ n5_
        obtain ⟨Ao42, co42, eo42⟩ := Kd.R_slice HO182.out
        (first | subst eo42 | (injection eo42 with f1_ f2_ f3_; have f4_ := f1_.symm; have f5_ := f3_.symm; clear f1_ f2_ f3_; subst f4_; subst f5_))
        obtain ⟨Ao43, co43, eo43⟩ := Kd.R_slice HO186.out
        (first | subst eo43 | (injection eo43 with f1_ f2_ f3_; have f4_ := f1_.symm; have f5_ := f3_.symm; clear f1_ f2_ f3_; subst f4_; subst f5_))
        refine start_ (n := 23) (S := fun w' => w'.cell? ⟨gb174, 0, none⟩ = some (.slice A4_0 l4_0.length c4_0) ∧ w'.cell? ⟨gb174, 1, none⟩ = some (.int .u8 a4_1) ∧ w'.cell? ⟨gb174, 2, none⟩ = some (.int .u64 a4_2) ∧ w'.cell? ⟨gb174, 3, none⟩ = some (.slice A4_3 l4_3.length c4_3) ∧ w'.cell? ⟨gb175, 0, none⟩ = some (.slice A5_0 l5_0.length c5_0) ∧ w'.cell? ⟨gb175, 1, none⟩ = some (.int .u8 a5_1) ∧ w'.cell? ⟨gb175, 2, none⟩ = some (.int .u64 a5_2) ∧ w'.cell? ⟨gb175, 3, none⟩ = some (.slice A5_3 l5_3.length c5_3)) (ds := []) #[false, false, false, false, false, false, false, false, false, false, false, false, false, false, false, false, false, false, false, false, false, false, false] (by kernel_rfl) rfl rfl ⟨(blk_cell BK174.out 0).trans rfl, (blk_cell BK174.out 1).trans rfl, (blk_cell BK174.out 2).trans rfl, (blk_cell BK174.out 3).trans rfl, (blk_cell BK175.out 0).trans rfl, (blk_cell BK175.out 1).trans rfl, (blk_cell BK175.out 2).trans rfl, (blk_cell BK175.out 3).trans rfl⟩ (fun hHeld => ?_); refine with_tabW retargetlaw19_InterpretStores.tab6 retargetlaw19_InterpretStores.bits6 (fun HT_ HW_ => ?_)
        generalize w33.drew = w41 at HO178 HO182 HO186 BK174 BK175 HB hHeld ⊢
        refine pz_ (i := 0) (N := some 65) (h := ?_)
        refine pz_ (i := 1) (N := some 66) (h := ?_)
        refine nz_ (i := 2) (N := some 67) (h := fun K hK => ?_)
        refine goes_ Try.func7 (by kernel_rfl) rfl #[.slice Ao42 t179.length co42, .slice Ao43 t183.length co43] (by rfl) rfl rfl q1_ ?_
        with_reducible refine (retargetref19_SameCells.calls kj6 _ _ t179 _ _ t183 true _ ?side1 ?side2 ?side3 ?side4 A34.out).mono ?_
        (case side1 => repeat (first | exact (Kd.R_reads' HO182.out).2.2 | (with_reducible refine Kd.C_alloc ?_ _) | (with_reducible refine Kd.C_drewN ?_ _) | (with_reducible refine Kd.C_drew ?_)))
        (case side2 => exact (Kd.R_reads' HO182.out).2.1)
        (case side3 => repeat (first | exact (Kd.R_reads' HO186.out).2.2 | (with_reducible refine Kd.C_alloc ?_ _) | (with_reducible refine Kd.C_drewN ?_ _) | (with_reducible refine Kd.C_drew ?_)))
        (case side4 => exact (Kd.R_reads' HO186.out).2.1)
        rintro e w' ⟨rfl, ⟨nd, rfl⟩⟩
        refine ⟨_, rfl, ?_⟩
        refine hK.out _ _ ⟨(blk_cell BK174.out 0).trans rfl, (blk_cell BK174.out 1).trans rfl, (blk_cell BK174.out 2).trans rfl, (blk_cell BK174.out 3).trans rfl, (blk_cell BK175.out 0).trans rfl, (blk_cell BK175.out 1).trans rfl, (blk_cell BK175.out 2).trans rfl, (blk_cell BK175.out 3).trans rfl⟩ (fun hHeld => ?_)
        clear hK K
        refine mz_ (some 67) (h := ?_)
        refine pz_ (i := 3) (N := some 68) (h := ?_)
        refine pz_ (i := 4) (N := some 69) (h := ?_)
        refine pz_ (i := 5) (N := some 70) (h := ?_)
        refine pz_ (i := 6) (N := some 71) (h := ?_)
        refine pz_ (i := 7) (N := some 72) (h := ?_)
        refine pz_ (i := 8) (N := some 73) (h := ?_)
        refine tz_ (i := 9) (N := some 74) (h := ?_)
        refine tz_ (i := 10) (N := some 75) (h := ?_)
        refine tz_ (i := 12) (N := some 77) (h := ?_)
        refine tz_ (i := 13) (N := some 78) (h := ?_)
        refine nz_ (i := 11) (N := some 76) (h := fun K hK => ?_)
        refine goes_ Try.func8 (by kernel_rfl) rfl #[.agg #[.slice A4_0 l4_0.length c4_0, .int .u8 a4_1, .int .u64 a4_2, .slice A4_3 l4_3.length c4_3], .agg #[.slice A5_0 l5_0.length c5_0, .int .u8 a5_1, .int .u64 a5_2, .slice A5_3 l5_3.length c5_3]] (by rfl) rfl rfl q1_ ?_
        with_reducible refine (interpret_Same.calls kj6 _ _ l4_0 a4_1 a4_2 _ _ l4_3 _ _ l5_0 a5_1 a5_2 _ _ l5_3 t188 _ ?side1 ?side2 ?side3 ?side4 ?side5 ?side6 ?side7 ?side8 A37.out).mono ?_
        (case side1 => repeat (first | exact (Kd.C_below HR4_0.out q3_) | (with_reducible refine Kd.C_alloc ?_ _) | (with_reducible refine Kd.C_drewN ?_ _) | (with_reducible refine Kd.C_drew ?_)))
        (case side2 => exact HC4_0.out)
        (case side3 => repeat (first | exact (Kd.C_below HR4_3.out q3_) | (with_reducible refine Kd.C_alloc ?_ _) | (with_reducible refine Kd.C_drewN ?_ _) | (with_reducible refine Kd.C_drew ?_)))
        (case side4 => exact HC4_3.out)
        (case side5 => repeat (first | exact (Kd.C_below HR5_0.out q3_) | (with_reducible refine Kd.C_alloc ?_ _) | (with_reducible refine Kd.C_drewN ?_ _) | (with_reducible refine Kd.C_drew ?_)))
        (case side6 => exact HC5_0.out)
        (case side7 => repeat (first | exact (Kd.C_below HR5_3.out q3_) | (with_reducible refine Kd.C_alloc ?_ _) | (with_reducible refine Kd.C_drewN ?_ _) | (with_reducible refine Kd.C_drew ?_)))
        (case side8 => exact HC5_3.out)
        rintro e w44 ⟨rfl, hb⟩
        refine ⟨_, rfl, ?_⟩
        have n0_ := Aside0.mk (Kd.R_below q14_ hb)
        have n1_ := Aside0.mk (Kd.R_below q16_ hb)
        have n2_ := Aside0.mk (Kd.R_below (by (with_reducible repeat (first | apply Kd.R_alloc | apply Kd.R_drewN | apply Kd.R_drew)); exact HO186.out) hb)
        have n3_ := Aside0.mk (blk_below (g := gb174) (o := .cells #[.slice A4_0 l4_0.length c4_0, .int .u8 a4_1, .int .u64 a4_2, .slice A4_3 l4_3.length c4_3] 26 (0, 0)) q9_ hb)
        have n4_ := Aside0.mk (blk_below (g := gb175) (o := .cells #[.slice A5_0 l5_0.length c5_0, .int .u8 a5_1, .int .u64 a5_2, .slice A5_3 l5_3.length c5_3] 26 (0, 0)) q13_ hb)
        have n5_ := Aside0.mk (below_step q3_ hb)
        clear HO178
        clear HO182
        clear HO186
        clear BK174
        clear BK175
        clear HB
        have HO178 := n0_
        have HO182 := n1_
        have HO186 := n2_
        have BK174 := n3_
        have BK175 := n4_
        have HB := n5_
        clear n0_ n1_ n2_ n3_ n4_ n5_
        (try clear hb)
        (try clear hb2)
        (try clear hk)
        (try clear hi)
        refine hK.out _ _ ⟨(blk_cell BK174.out 0).trans rfl, (blk_cell BK174.out 1).trans rfl, (blk_cell BK174.out 2).trans rfl, (blk_cell BK174.out 3).trans rfl, (blk_cell BK175.out 0).trans rfl, (blk_cell BK175.out 1).trans rfl, (blk_cell BK175.out 2).trans rfl, (blk_cell BK175.out 3).trans rfl⟩ (fun hHeld => ?_)
        clear hK K
        refine mz_ (some 76) (h := ?_)
        refine nz_ (i := 14) (N := some 79) (h := fun K hK => ?_)
        refine goes_ Try.func9 (by kernel_rfl) rfl #[.agg #[.slice A4_0 l4_0.length c4_0, .int .u8 a4_1, .int .u64 a4_2, .slice A4_3 l4_3.length c4_3], .agg #[.slice A5_0 l5_0.length c5_0, .int .u8 a5_1, .int .u64 a5_2, .slice A5_3 l5_3.length c5_3]] (by rfl) rfl rfl q1_ ?_
        with_reducible refine (retargetref19_Same.calls kj6 _ _ l4_0 a4_1 a4_2 _ _ l4_3 _ _ l5_0 a5_1 a5_2 _ _ l5_3 t189 _ ?side1 ?side2 ?side3 ?side4 ?side5 ?side6 ?side7 ?side8 A38.out).mono ?_
        (case side1 => repeat (first | exact (Kd.C_below HR4_0.out HB.out) | (with_reducible refine Kd.C_alloc ?_ _) | (with_reducible refine Kd.C_drewN ?_ _) | (with_reducible refine Kd.C_drew ?_)))
        (case side2 => exact HC4_0.out)
        (case side3 => repeat (first | exact (Kd.C_below HR4_3.out HB.out) | (with_reducible refine Kd.C_alloc ?_ _) | (with_reducible refine Kd.C_drewN ?_ _) | (with_reducible refine Kd.C_drew ?_)))
        (case side4 => exact HC4_3.out)
        (case side5 => repeat (first | exact (Kd.C_below HR5_0.out HB.out) | (with_reducible refine Kd.C_alloc ?_ _) | (with_reducible refine Kd.C_drewN ?_ _) | (with_reducible refine Kd.C_drew ?_)))
        (case side6 => exact HC5_0.out)
        (case side7 => repeat (first | exact (Kd.C_below HR5_3.out HB.out) | (with_reducible refine Kd.C_alloc ?_ _) | (with_reducible refine Kd.C_drewN ?_ _) | (with_reducible refine Kd.C_drew ?_)))
        (case side8 => exact HC5_3.out)
        rintro e w45 ⟨rfl, hb⟩
        refine ⟨_, rfl, ?_⟩
        have n0_ := Aside0.mk (Kd.R_below q14_ hb)
        have n1_ := Aside0.mk (Kd.R_below q16_ hb)
        have n2_ := Aside0.mk (Kd.R_below (by (with_reducible repeat (first | apply Kd.R_alloc | apply Kd.R_drewN | apply Kd.R_drew)); exact HO186.out) hb)
        have n3_ := Aside0.mk (blk_below (g := gb174) (o := .cells #[.slice A4_0 l4_0.length c4_0, .int .u8 a4_1, .int .u64 a4_2, .slice A4_3 l4_3.length c4_3] 26 (0, 0)) q9_ hb)
        have n4_ := Aside0.mk (blk_below (g := gb175) (o := .cells #[.slice A5_0 l5_0.length c5_0, .int .u8 a5_1, .int .u64 a5_2, .slice A5_3 l5_3.length c5_3] 26 (0, 0)) q13_ hb)
        have n5_ := Aside0.mk (below_step q3_ hb)
        clear HO178
        clear HO182
        clear HO186
        clear BK174
        clear BK175
        clear HB
        have HO178 := n0_
        have HO182 := n1_
        have HO186 := n2_
        have BK174 := n3_
        have BK175 := n4_
        have HB := n5_
        clear n0_ n1_ n2_ n3_ n4_ n5_
        (try clear hb)
        (try clear hb2)
        (try clear hk)
        (try clear hi)
        refine hK.out _ _ ⟨(blk_cell BK174.out 0).trans rfl, (blk_cell BK174.out 1).trans rfl, (blk_cell BK174.out 2).trans rfl, (blk_cell BK174.out 3).trans rfl, (blk_cell BK175.out 0).trans rfl, (blk_cell BK175.out 1).trans rfl, (blk_cell BK175.out 2).trans rfl, (blk_cell BK175.out 3).trans rfl⟩ (fun hHeld => ?_)
        clear hK K
        refine mz_ (some 79) (h := ?_)
        refine pz_ (i := 15) (N := some 80) (h := ?_)
        refine pz_ (i := 16) (N := some 81) (h := ?_)
        refine pz_ (i := 17) (N := some 82) (h := ?_)
        refine tz_ (i := 18) (N := some 83) (h := ?_)
        refine tz_ (i := 19) (N := some 84) (h := ?_)
        refine nz_ (i := 20) (N := some 85) (h := fun K hK => ?_)
        refine goes_ Try.func8 (by kernel_rfl) rfl #[.agg #[.slice A4_0 l4_0.length c4_0, .int .u8 a4_1, .int .u64 a4_2, .slice A4_3 l4_3.length c4_3], .agg #[.slice A4_0 l4_0.length c4_0, .int .u8 a4_1, .int .u64 a4_2, .slice A4_3 l4_3.length c4_3]] (by rfl) rfl rfl q1_ ?_
        with_reducible refine (interpret_Same.calls kj6 _ _ l4_0 a4_1 a4_2 _ _ l4_3 _ _ l4_0 a4_1 a4_2 _ _ l4_3 t190 _ ?side1 ?side2 ?side3 ?side4 ?side5 ?side6 ?side7 ?side8 A40.out).mono ?_
        (case side1 => repeat (first | exact (Kd.C_below HR4_0.out HB.out) | (with_reducible refine Kd.C_alloc ?_ _) | (with_reducible refine Kd.C_drewN ?_ _) | (with_reducible refine Kd.C_drew ?_)))
        (case side2 => exact HC4_0.out)
        (case side3 => repeat (first | exact (Kd.C_below HR4_3.out HB.out) | (with_reducible refine Kd.C_alloc ?_ _) | (with_reducible refine Kd.C_drewN ?_ _) | (with_reducible refine Kd.C_drew ?_)))
        (case side4 => exact HC4_3.out)
        (case side5 => repeat (first | exact (Kd.C_below HR4_0.out HB.out) | (with_reducible refine Kd.C_alloc ?_ _) | (with_reducible refine Kd.C_drewN ?_ _) | (with_reducible refine Kd.C_drew ?_)))
        (case side6 => exact HC4_0.out)
        (case side7 => repeat (first | exact (Kd.C_below HR4_3.out HB.out) | (with_reducible refine Kd.C_alloc ?_ _) | (with_reducible refine Kd.C_drewN ?_ _) | (with_reducible refine Kd.C_drew ?_)))
        (case side8 => exact HC4_3.out)
        rintro e w46 ⟨rfl, hb⟩
        refine ⟨_, rfl, ?_⟩
        have n0_ := Aside0.mk (Kd.R_below q14_ hb)
        have n1_ := Aside0.mk (Kd.R_below q16_ hb)
        have n2_ := Aside0.mk (Kd.R_below (by (with_reducible repeat (first | apply Kd.R_alloc | apply Kd.R_drewN | apply Kd.R_drew)); exact HO186.out) hb)
        have n3_ := Aside0.mk (blk_below (g := gb174) (o := .cells #[.slice A4_0 l4_0.length c4_0, .int .u8 a4_1, .int .u64 a4_2, .slice A4_3 l4_3.length c4_3] 26 (0, 0)) q9_ hb)
        have n4_ := Aside0.mk (blk_below (g := gb175) (o := .cells #[.slice A5_0 l5_0.length c5_0, .int .u8 a5_1, .int .u64 a5_2, .slice A5_3 l5_3.length c5_3] 26 (0, 0)) q13_ hb)
        have n5_ := Aside0.mk (below_step q3_ hb)
        clear HO178
        clear HO182
        clear HO186
        clear BK174
        clear BK175
        clear HB
        have HO178 := n0_
        have HO182 := n1_
        have HO186 := n2_
        have BK174 := n3_
        have BK175 := n4_
        have HB := n5_
        clear n0_ n1_ n2_ n3_ n4_ n5_
        (try clear hb)
        (try clear hb2)
        (try clear hk)
        (try clear hi)
        refine hK.out _ _ ⟨(blk_cell BK174.out 0).trans rfl, (blk_cell BK174.out 1).trans rfl, (blk_cell BK174.out 2).trans rfl, (blk_cell BK174.out 3).trans rfl, (blk_cell BK175.out 0).trans rfl, (blk_cell BK175.out 1).trans rfl, (blk_cell BK175.out 2).trans rfl, (blk_cell BK175.out 3).trans rfl⟩ (fun hHeld => ?_)
        clear hK K
        refine mz_ (some 85) (h := ?_)
        refine pz_ (i := 21) (N := some 86) (h := ?_)
        refine pz_ (i := 22) (N := some 18) (h := ?_)
        refine done_ (done_of HT_.out (by kernel_rfl)) ?_
        try go_wp2
        go_meet
        case rel => exact ⟨_, (t190), q4_, H', ⟨by have := HJ6.out; first | omega | exact Nat.le_refl _⟩, ⟨by (with_reducible repeat (first | apply Kd.R_alloc | apply Kd.R_drewN | apply Kd.R_drew)); exact Kd.R_mono HO178.out (fun _ hk => hk.1.2)⟩, ⟨by (with_reducible repeat (first | apply Kd.R_alloc | apply Kd.R_drewN | apply Kd.R_drew)); exact Kd.R_mono HO182.out (fun _ hk => hk.1.2)⟩, ⟨by (with_reducible repeat (first | refine blk_drewN ?_ _ | refine blk_drew ?_ | refine blk_alloc ?_ _)); exact BK174.out⟩, ⟨by (with_reducible repeat (first | refine blk_drewN ?_ _ | refine blk_drew ?_ | refine blk_alloc ?_ _)); exact BK175.out⟩, ⟨by repeat (first | (with_reducible first | exact HB.out | apply below_alloc | apply pw_below_drewN | apply below_drew1 | refine below_set ?_ GE174.out | refine below_set ?_ GE175.out) | exact HB.out)⟩⟩
       ·rw [if_neg c39] at H
        have c39b0 : (t188 == t189) = false := by simpa using c39
        (try (have c39b1 : decide (t188 = t189) = false := by simpa using c39))
        (try (have c39b2 : (t188 == t189) = false := by simpa using c39))
        (try (have c39b3 : ¬ (t188 = t189) := by simpa using c39))
        clear c39
        have H' := Aside0.mk H
        clear H
        try go_wp2
        have n0_ := Aside0.mk (Kd.R_drew HO178.out)
        have n1_ := Aside0.mk (Kd.R_drew HO182.out)
        have n2_ := Aside0.mk (Kd.R_drew HO186.out)
        have n3_ := Aside0.mk (blk_drew BK174.out)
        have n4_ := Aside0.mk (blk_drew BK175.out)
        have n5_ := Aside0.mk (below_drew1 HB.out)
        clear HO178
        clear HO182
        clear HO186
        clear BK174
        clear BK175
        clear HB
        have HO178 := n0_
        have HO182 := n1_
        have HO186 := n2_
        have BK174 := n3_
        have BK175 := n4_
        have HB := n5_
        clear n0_ n1_ n2_ n3_ n4_ n5_
        obtain ⟨Ao48, co48, eo48⟩ := Kd.R_slice HO182.out
        (first | subst eo48 | (injection eo48 with f1_ f2_ f3_; have f4_ := f1_.symm; have f5_ := f3_.symm; clear f1_ f2_ f3_; subst f4_; subst f5_))
        obtain ⟨Ao49, co49, eo49⟩ := Kd.R_slice HO186.out
        (first | subst eo49 | (injection eo49 with f1_ f2_ f3_; have f4_ := f1_.symm; have f5_ := f3_.symm; clear f1_ f2_ f3_; subst f4_; subst f5_))
        refine start_ (n := 23) (S := fun w' => w'.cell? ⟨gb174, 0, none⟩ = some (.slice A4_0 l4_0.length c4_0) ∧ w'.cell? ⟨gb174, 1, none⟩ = some (.int .u8 a4_1) ∧ w'.cell? ⟨gb174, 2, none⟩ = some (.int .u64 a4_2) ∧ w'.cell? ⟨gb174, 3, none⟩ = some (.slice A4_3 l4_3.length c4_3) ∧ w'.cell? ⟨gb175, 0, none⟩ = some (.slice A5_0 l5_0.length c5_0) ∧ w'.cell? ⟨gb175, 1, none⟩ = some (.int .u8 a5_1) ∧ w'.cell? ⟨gb175, 2, none⟩ = some (.int .u64 a5_2) ∧ w'.cell? ⟨gb175, 3, none⟩ = some (.slice A5_3 l5_3.length c5_3)) (ds := []) #[false, false, false, false, false, false, false, false, false, false, false, false, false, false, false, false, false, false, false, false, false, false, false] (by kernel_rfl) rfl rfl ⟨(blk_cell BK174.out 0).trans rfl, (blk_cell BK174.out 1).trans rfl, (blk_cell BK174.out 2).trans rfl, (blk_cell BK174.out 3).trans rfl, (blk_cell BK175.out 0).trans rfl, (blk_cell BK175.out 1).trans rfl, (blk_cell BK175.out 2).trans rfl, (blk_cell BK175.out 3).trans rfl⟩ (fun hHeld => ?_); refine with_tabW retargetlaw19_InterpretStores.tab6 retargetlaw19_InterpretStores.bits6 (fun HT_ HW_ => ?_)
        generalize w33.drew = w47 at HO178 HO182 HO186 BK174 BK175 HB hHeld ⊢
        refine pz_ (i := 0) (N := some 65) (h := ?_)
        refine pz_ (i := 1) (N := some 66) (h := ?_)
        refine nz_ (i := 2) (N := some 67) (h := fun K hK => ?_)
        refine goes_ Try.func7 (by kernel_rfl) rfl #[.slice Ao48 t179.length co48, .slice Ao49 t183.length co49] (by rfl) rfl rfl q1_ ?_
        with_reducible refine (retargetref19_SameCells.calls kj6 _ _ t179 _ _ t183 true _ ?side1 ?side2 ?side3 ?side4 A34.out).mono ?_
        (case side1 => repeat (first | exact (Kd.R_reads' HO182.out).2.2 | (with_reducible refine Kd.C_alloc ?_ _) | (with_reducible refine Kd.C_drewN ?_ _) | (with_reducible refine Kd.C_drew ?_)))
        (case side2 => exact (Kd.R_reads' HO182.out).2.1)
        (case side3 => repeat (first | exact (Kd.R_reads' HO186.out).2.2 | (with_reducible refine Kd.C_alloc ?_ _) | (with_reducible refine Kd.C_drewN ?_ _) | (with_reducible refine Kd.C_drew ?_)))
        (case side4 => exact (Kd.R_reads' HO186.out).2.1)
        rintro e w' ⟨rfl, ⟨nd, rfl⟩⟩
        refine ⟨_, rfl, ?_⟩
        refine hK.out _ _ ⟨(blk_cell BK174.out 0).trans rfl, (blk_cell BK174.out 1).trans rfl, (blk_cell BK174.out 2).trans rfl, (blk_cell BK174.out 3).trans rfl, (blk_cell BK175.out 0).trans rfl, (blk_cell BK175.out 1).trans rfl, (blk_cell BK175.out 2).trans rfl, (blk_cell BK175.out 3).trans rfl⟩ (fun hHeld => ?_)
        clear hK K
        refine mz_ (some 67) (h := ?_)
        refine pz_ (i := 3) (N := some 68) (h := ?_)
        refine pz_ (i := 4) (N := some 69) (h := ?_)
        refine pz_ (i := 5) (N := some 70) (h := ?_)
        refine pz_ (i := 6) (N := some 71) (h := ?_)
        refine pz_ (i := 7) (N := some 72) (h := ?_)
        refine pz_ (i := 8) (N := some 73) (h := ?_)
        refine tz_ (i := 9) (N := some 74) (h := ?_)
        refine tz_ (i := 10) (N := some 75) (h := ?_)
        refine tz_ (i := 12) (N := some 77) (h := ?_)
        refine tz_ (i := 13) (N := some 78) (h := ?_)
        refine nz_ (i := 11) (N := some 76) (h := fun K hK => ?_)
        refine goes_ Try.func8 (by kernel_rfl) rfl #[.agg #[.slice A4_0 l4_0.length c4_0, .int .u8 a4_1, .int .u64 a4_2, .slice A4_3 l4_3.length c4_3], .agg #[.slice A5_0 l5_0.length c5_0, .int .u8 a5_1, .int .u64 a5_2, .slice A5_3 l5_3.length c5_3]] (by rfl) rfl rfl q1_ ?_
        with_reducible refine (interpret_Same.calls kj6 _ _ l4_0 a4_1 a4_2 _ _ l4_3 _ _ l5_0 a5_1 a5_2 _ _ l5_3 t188 _ ?side1 ?side2 ?side3 ?side4 ?side5 ?side6 ?side7 ?side8 A37.out).mono ?_
        (case side1 => repeat (first | exact (Kd.C_below HR4_0.out q3_) | (with_reducible refine Kd.C_alloc ?_ _) | (with_reducible refine Kd.C_drewN ?_ _) | (with_reducible refine Kd.C_drew ?_)))
        (case side2 => exact HC4_0.out)
        (case side3 => repeat (first | exact (Kd.C_below HR4_3.out q3_) | (with_reducible refine Kd.C_alloc ?_ _) | (with_reducible refine Kd.C_drewN ?_ _) | (with_reducible refine Kd.C_drew ?_)))
        (case side4 => exact HC4_3.out)
        (case side5 => repeat (first | exact (Kd.C_below HR5_0.out q3_) | (with_reducible refine Kd.C_alloc ?_ _) | (with_reducible refine Kd.C_drewN ?_ _) | (with_reducible refine Kd.C_drew ?_)))
        (case side6 => exact HC5_0.out)
        (case side7 => repeat (first | exact (Kd.C_below HR5_3.out q3_) | (with_reducible refine Kd.C_alloc ?_ _) | (with_reducible refine Kd.C_drewN ?_ _) | (with_reducible refine Kd.C_drew ?_)))
        (case side8 => exact HC5_3.out)
        rintro e w50 ⟨rfl, hb⟩
        refine ⟨_, rfl, ?_⟩
        have n0_ := Aside0.mk (Kd.R_below q14_ hb)
        have n1_ := Aside0.mk (Kd.R_below q16_ hb)
        have n2_ := Aside0.mk (Kd.R_below (by (with_reducible repeat (first | apply Kd.R_alloc | apply Kd.R_drewN | apply Kd.R_drew)); exact HO186.out) hb)
        have n3_ := Aside0.mk (blk_below (g := gb174) (o := .cells #[.slice A4_0 l4_0.length c4_0, .int .u8 a4_1, .int .u64 a4_2, .slice A4_3 l4_3.length c4_3] 26 (0, 0)) q9_ hb)
        have n4_ := Aside0.mk (blk_below (g := gb175) (o := .cells #[.slice A5_0 l5_0.length c5_0, .int .u8 a5_1, .int .u64 a5_2, .slice A5_3 l5_3.length c5_3] 26 (0, 0)) q13_ hb)
        have n5_ := Aside0.mk (below_step q3_ hb)
        clear HO178
        clear HO182
        clear HO186
        clear BK174
        clear BK175
        clear HB
        have HO178 := n0_
        have HO182 := n1_
        have HO186 := n2_
        have BK174 := n3_
        have BK175 := n4_
        have HB := n5_
        clear n0_ n1_ n2_ n3_ n4_ n5_
        (try clear hb)
        (try clear hb2)
        (try clear hk)
        (try clear hi)
        refine hK.out _ _ ⟨(blk_cell BK174.out 0).trans rfl, (blk_cell BK174.out 1).trans rfl, (blk_cell BK174.out 2).trans rfl, (blk_cell BK174.out 3).trans rfl, (blk_cell BK175.out 0).trans rfl, (blk_cell BK175.out 1).trans rfl, (blk_cell BK175.out 2).trans rfl, (blk_cell BK175.out 3).trans rfl⟩ (fun hHeld => ?_)
        clear hK K
        refine mz_ (some 76) (h := ?_)
        refine nz_ (i := 14) (N := some 79) (h := fun K hK => ?_)
        refine goes_ Try.func9 (by kernel_rfl) rfl #[.agg #[.slice A4_0 l4_0.length c4_0, .int .u8 a4_1, .int .u64 a4_2, .slice A4_3 l4_3.length c4_3], .agg #[.slice A5_0 l5_0.length c5_0, .int .u8 a5_1, .int .u64 a5_2, .slice A5_3 l5_3.length c5_3]] (by rfl) rfl rfl q1_ ?_
        with_reducible refine (retargetref19_Same.calls kj6 _ _ l4_0 a4_1 a4_2 _ _ l4_3 _ _ l5_0 a5_1 a5_2 _ _ l5_3 t189 _ ?side1 ?side2 ?side3 ?side4 ?side5 ?side6 ?side7 ?side8 A38.out).mono ?_
        (case side1 => repeat (first | exact (Kd.C_below HR4_0.out HB.out) | (with_reducible refine Kd.C_alloc ?_ _) | (with_reducible refine Kd.C_drewN ?_ _) | (with_reducible refine Kd.C_drew ?_)))
        (case side2 => exact HC4_0.out)
        (case side3 => repeat (first | exact (Kd.C_below HR4_3.out HB.out) | (with_reducible refine Kd.C_alloc ?_ _) | (with_reducible refine Kd.C_drewN ?_ _) | (with_reducible refine Kd.C_drew ?_)))
        (case side4 => exact HC4_3.out)
        (case side5 => repeat (first | exact (Kd.C_below HR5_0.out HB.out) | (with_reducible refine Kd.C_alloc ?_ _) | (with_reducible refine Kd.C_drewN ?_ _) | (with_reducible refine Kd.C_drew ?_)))
        (case side6 => exact HC5_0.out)
        (case side7 => repeat (first | exact (Kd.C_below HR5_3.out HB.out) | (with_reducible refine Kd.C_alloc ?_ _) | (with_reducible refine Kd.C_drewN ?_ _) | (with_reducible refine Kd.C_drew ?_)))
        (case side8 => exact HC5_3.out)
        rintro e w51 ⟨rfl, hb⟩
        refine ⟨_, rfl, ?_⟩
        have n0_ := Aside0.mk (Kd.R_below q14_ hb)
        have n1_ := Aside0.mk (Kd.R_below q16_ hb)
        have n2_ := Aside0.mk (Kd.R_below (by (with_reducible repeat (first | apply Kd.R_alloc | apply Kd.R_drewN | apply Kd.R_drew)); exact HO186.out) hb)
        have n3_ := Aside0.mk (blk_below (g := gb174) (o := .cells #[.slice A4_0 l4_0.length c4_0, .int .u8 a4_1, .int .u64 a4_2, .slice A4_3 l4_3.length c4_3] 26 (0, 0)) q9_ hb)
        have n4_ := Aside0.mk (blk_below (g := gb175) (o := .cells #[.slice A5_0 l5_0.length c5_0, .int .u8 a5_1, .int .u64 a5_2, .slice A5_3 l5_3.length c5_3] 26 (0, 0)) q13_ hb)
        have n5_ := Aside0.mk (below_step q3_ hb)
        clear HO178
        clear HO182
        clear HO186
        clear BK174
        clear BK175
        clear HB
        have HO178 := n0_
        have HO182 := n1_
        have HO186 := n2_
        have BK174 := n3_
        have BK175 := n4_
        have HB := n5_
        clear n0_ n1_ n2_ n3_ n4_ n5_
        (try clear hb)
        (try clear hb2)
        (try clear hk)
        (try clear hi)
        refine hK.out _ _ ⟨(blk_cell BK174.out 0).trans rfl, (blk_cell BK174.out 1).trans rfl, (blk_cell BK174.out 2).trans rfl, (blk_cell BK174.out 3).trans rfl, (blk_cell BK175.out 0).trans rfl, (blk_cell BK175.out 1).trans rfl, (blk_cell BK175.out 2).trans rfl, (blk_cell BK175.out 3).trans rfl⟩ (fun hHeld => ?_)
        clear hK K
        refine mz_ (some 79) (h := ?_)
        refine pz_ (i := 15) (N := some 80) (h := ?_)
        refine pz_ (i := 16) (N := some 81) (h := ?_)
        refine pz_ (i := 17) (N := some 82) (h := ?_)
        refine oz_ (i := 18) (N := some 83) (h := ?_)
        refine oz_ (i := 19) (N := some 84) (h := ?_)
        refine oz_ (i := 20) (N := some 85) (h := ?_)
        refine pz_ (i := 21) (N := some 86) (h := ?_)
        refine pz_ (i := 22) (N := some 18) (h := ?_)
        refine done_ (done_of HT_.out (by kernel_rfl)) ?_
        try go_wp2
        go_meet
        case rel => exact ⟨_, (false), q4_, H', ⟨by have := HJ6.out; first | omega | exact Nat.le_refl _⟩, ⟨by (with_reducible repeat (first | apply Kd.R_alloc | apply Kd.R_drewN | apply Kd.R_drew)); exact Kd.R_mono HO178.out (fun _ hk => hk.1.2)⟩, ⟨by (with_reducible repeat (first | apply Kd.R_alloc | apply Kd.R_drewN | apply Kd.R_drew)); exact Kd.R_mono HO182.out (fun _ hk => hk.1.2)⟩, ⟨by (with_reducible repeat (first | refine blk_drewN ?_ _ | refine blk_drew ?_ | refine blk_alloc ?_ _)); exact BK174.out⟩, ⟨by (with_reducible repeat (first | refine blk_drewN ?_ _ | refine blk_drew ?_ | refine blk_alloc ?_ _)); exact BK175.out⟩, ⟨by repeat (first | (with_reducible first | exact HB.out | apply below_alloc | apply pw_below_drewN | apply below_drew1 | refine below_set ?_ GE174.out | refine below_set ?_ GE175.out) | exact HB.out)⟩⟩
      ·rw [if_neg c36] at H
       have c36b0 : (t180 == t184) = false := beq_eq_false_iff_ne.mpr c36
       have c36b1 : (t180 != t184) = true := bne_iff_ne.mpr c36
       (first | rw [c36b0] | (simp only [i64_w, i32_w]; rw [c36b0]) | skip)
       have H' := Aside0.mk H
       clear H
       try go_wp2
       have n0_ := Aside0.mk (Kd.R_drew HO178.out)
       have n1_ := Aside0.mk (Kd.R_drew HO182.out)
       have n2_ := Aside0.mk (Kd.R_drew HO186.out)
       have n3_ := Aside0.mk (blk_drew BK174.out)
       have n4_ := Aside0.mk (blk_drew BK175.out)
       have n5_ := Aside0.mk (below_drew1 HB.out)
       clear HO178
       clear HO182
       clear HO186
       clear BK174
       clear BK175
       clear HB
       have HO178 := n0_
       have HO182 := n1_
       have HO186 := n2_
       have BK174 := n3_
       have BK175 := n4_
       have HB := n5_
       clear n0_ n1_ n2_ n3_ n4_ n5_
       obtain ⟨Ao53, co53, eo53⟩ := Kd.R_slice HO182.out
       (first | subst eo53 | (injection eo53 with f1_ f2_ f3_; have f4_ := f1_.symm; have f5_ := f3_.symm; clear f1_ f2_ f3_; subst f4_; subst f5_))
       obtain ⟨Ao54, co54, eo54⟩ := Kd.R_slice HO186.out
       (first | subst eo54 | (injection eo54 with f1_ f2_ f3_; have f4_ := f1_.symm; have f5_ := f3_.symm; clear f1_ f2_ f3_; subst f4_; subst f5_))
       refine start_ (n := 23) (S := fun w' => True) (ds := []) #[false, false, false, false, false, false, false, false, false, false, false, false, false, false, false, false, false, false, false, false, false, false, false] (by kernel_rfl) rfl rfl trivial (fun hHeld => ?_); refine with_tabW retargetlaw19_InterpretStores.tab6 retargetlaw19_InterpretStores.bits6 (fun HT_ HW_ => ?_)
       generalize w33.drew = w52 at HO178 HO182 HO186 BK174 BK175 HB hHeld ⊢
       refine pz_ (i := 0) (N := some 65) (h := ?_)
       refine pz_ (i := 1) (N := some 66) (h := ?_)
       refine nz_ (i := 2) (N := some 67) (h := fun K hK => ?_)
       refine goes_ Try.func7 (by kernel_rfl) rfl #[.slice Ao53 t179.length co53, .slice Ao54 t183.length co54] (by rfl) rfl rfl q1_ ?_
       with_reducible refine (retargetref19_SameCells.calls kj6 _ _ t179 _ _ t183 true _ ?side1 ?side2 ?side3 ?side4 A34.out).mono ?_
       (case side1 => repeat (first | exact (Kd.R_reads' HO182.out).2.2 | (with_reducible refine Kd.C_alloc ?_ _) | (with_reducible refine Kd.C_drewN ?_ _) | (with_reducible refine Kd.C_drew ?_)))
       (case side2 => exact (Kd.R_reads' HO182.out).2.1)
       (case side3 => repeat (first | exact (Kd.R_reads' HO186.out).2.2 | (with_reducible refine Kd.C_alloc ?_ _) | (with_reducible refine Kd.C_drewN ?_ _) | (with_reducible refine Kd.C_drew ?_)))
       (case side4 => exact (Kd.R_reads' HO186.out).2.1)
       rintro e w' ⟨rfl, ⟨nd, rfl⟩⟩
       refine ⟨_, rfl, ?_⟩
       refine hK.out _ _ trivial (fun hHeld => ?_)
       clear hK K
       refine mz_ (some 67) (h := ?_)
       refine pz_ (i := 3) (N := some 68) (h := ?_)
       refine pz_ (i := 4) (N := some 69) (h := ?_)
       refine pz_ (i := 5) (N := some 70) (h := ?_)
       refine pz_ (i := 6) (N := some 71) (h := ?_)
       refine pz_ (i := 7) (N := some 72) (h := ?_)
       refine pz_ (i := 8) (N := some 73) (h := ?_)
       refine oz_ (i := 9) (N := some 74) (h := ?_)
       refine oz_ (i := 10) (N := some 75) (h := ?_)
       refine oz_ (i := 11) (N := some 76) (h := ?_)
       refine oz_ (i := 12) (N := some 77) (h := ?_)
       refine oz_ (i := 13) (N := some 78) (h := ?_)
       refine oz_ (i := 14) (N := some 79) (h := ?_)
       refine oz_ (i := 15) (N := some 80) (h := ?_)
       refine pz_ (i := 16) (N := some 81) (h := ?_)
       refine pz_ (i := 17) (N := some 82) (h := ?_)
       refine oz_ (i := 18) (N := some 83) (h := ?_)
       refine oz_ (i := 19) (N := some 84) (h := ?_)
       refine oz_ (i := 20) (N := some 85) (h := ?_)
       refine pz_ (i := 21) (N := some 86) (h := ?_)
       refine pz_ (i := 22) (N := some 18) (h := ?_)
       refine done_ (done_of HT_.out (by kernel_rfl)) ?_
       try go_wp2
       go_meet
       case rel => exact ⟨_, (false), q4_, H', ⟨by have := HJ6.out; first | omega | exact Nat.le_refl _⟩, ⟨by (with_reducible repeat (first | apply Kd.R_alloc | apply Kd.R_drewN | apply Kd.R_drew)); exact Kd.R_mono HO178.out (fun _ hk => hk.1.2)⟩, ⟨by (with_reducible repeat (first | apply Kd.R_alloc | apply Kd.R_drewN | apply Kd.R_drew)); exact Kd.R_mono HO182.out (fun _ hk => hk.1.2)⟩, ⟨by (with_reducible repeat (first | refine blk_drewN ?_ _ | refine blk_drew ?_ | refine blk_alloc ?_ _)); exact BK174.out⟩, ⟨by (with_reducible repeat (first | refine blk_drewN ?_ _ | refine blk_drew ?_ | refine blk_alloc ?_ _)); exact BK175.out⟩, ⟨by repeat (first | (with_reducible first | exact HB.out | apply below_alloc | apply pw_below_drewN | apply below_drew1 | refine below_set ?_ GE174.out | refine below_set ?_ GE175.out) | exact HB.out)⟩⟩
     ·replace c35 := Bool.eq_false_iff.mpr c35
      subst c35
      have H1 : (retargetlaw19_InterpretStores.j1 kj6 l0 t176 t179 false) = some r := by rw [if_neg (show ¬ (false = true) by decide)] at H; exact H
      clear H
      have H := H1
      clear H1
      have H' := Aside0.mk H
      clear H
      try go_wp2
      have n0_ := Aside0.mk (Kd.R_drew HO178.out)
      have n1_ := Aside0.mk (Kd.R_drew HO182.out)
      have n2_ := Aside0.mk (Kd.R_drew HO186.out)
      have n3_ := Aside0.mk (blk_drew BK174.out)
      have n4_ := Aside0.mk (blk_drew BK175.out)
      have n5_ := Aside0.mk (below_drew1 HB.out)
      clear HO178
      clear HO182
      clear HO186
      clear BK174
      clear BK175
      clear HB
      have HO178 := n0_
      have HO182 := n1_
      have HO186 := n2_
      have BK174 := n3_
      have BK175 := n4_
      have HB := n5_
      clear n0_ n1_ n2_ n3_ n4_ n5_
      obtain ⟨Ao56, co56, eo56⟩ := Kd.R_slice HO182.out
      (first | subst eo56 | (injection eo56 with f1_ f2_ f3_; have f4_ := f1_.symm; have f5_ := f3_.symm; clear f1_ f2_ f3_; subst f4_; subst f5_))
      obtain ⟨Ao57, co57, eo57⟩ := Kd.R_slice HO186.out
      (first | subst eo57 | (injection eo57 with f1_ f2_ f3_; have f4_ := f1_.symm; have f5_ := f3_.symm; clear f1_ f2_ f3_; subst f4_; subst f5_))
      refine start_ (n := 23) (S := fun w' => True) (ds := []) #[false, false, false, false, false, false, false, false, false, false, false, false, false, false, false, false, false, false, false, false, false, false, false] (by kernel_rfl) rfl rfl trivial (fun hHeld => ?_); refine with_tabW retargetlaw19_InterpretStores.tab6 retargetlaw19_InterpretStores.bits6 (fun HT_ HW_ => ?_)
      generalize w33.drew = w55 at HO178 HO182 HO186 BK174 BK175 HB hHeld ⊢
      refine pz_ (i := 0) (N := some 65) (h := ?_)
      refine pz_ (i := 1) (N := some 66) (h := ?_)
      refine nz_ (i := 2) (N := some 67) (h := fun K hK => ?_)
      refine goes_ Try.func7 (by kernel_rfl) rfl #[.slice Ao56 t179.length co56, .slice Ao57 t183.length co57] (by rfl) rfl rfl q1_ ?_
      with_reducible refine (retargetref19_SameCells.calls kj6 _ _ t179 _ _ t183 false _ ?side1 ?side2 ?side3 ?side4 A34.out).mono ?_
      (case side1 => repeat (first | exact (Kd.R_reads' HO182.out).2.2 | (with_reducible refine Kd.C_alloc ?_ _) | (with_reducible refine Kd.C_drewN ?_ _) | (with_reducible refine Kd.C_drew ?_)))
      (case side2 => exact (Kd.R_reads' HO182.out).2.1)
      (case side3 => repeat (first | exact (Kd.R_reads' HO186.out).2.2 | (with_reducible refine Kd.C_alloc ?_ _) | (with_reducible refine Kd.C_drewN ?_ _) | (with_reducible refine Kd.C_drew ?_)))
      (case side4 => exact (Kd.R_reads' HO186.out).2.1)
      rintro e w' ⟨rfl, ⟨nd, rfl⟩⟩
      refine ⟨_, rfl, ?_⟩
      refine hK.out _ _ trivial (fun hHeld => ?_)
      clear hK K
      refine mz_ (some 67) (h := ?_)
      refine pz_ (i := 3) (N := some 68) (h := ?_)
      refine oz_ (i := 4) (N := some 69) (h := ?_)
      refine oz_ (i := 5) (N := some 70) (h := ?_)
      refine oz_ (i := 6) (N := some 71) (h := ?_)
      refine pz_ (i := 7) (N := some 72) (h := ?_)
      refine pz_ (i := 8) (N := some 73) (h := ?_)
      refine oz_ (i := 9) (N := some 74) (h := ?_)
      refine oz_ (i := 10) (N := some 75) (h := ?_)
      refine oz_ (i := 11) (N := some 76) (h := ?_)
      refine oz_ (i := 12) (N := some 77) (h := ?_)
      refine oz_ (i := 13) (N := some 78) (h := ?_)
      refine oz_ (i := 14) (N := some 79) (h := ?_)
      refine oz_ (i := 15) (N := some 80) (h := ?_)
      refine pz_ (i := 16) (N := some 81) (h := ?_)
      refine pz_ (i := 17) (N := some 82) (h := ?_)
      refine oz_ (i := 18) (N := some 83) (h := ?_)
      refine oz_ (i := 19) (N := some 84) (h := ?_)
      refine oz_ (i := 20) (N := some 85) (h := ?_)
      refine pz_ (i := 21) (N := some 86) (h := ?_)
      refine pz_ (i := 22) (N := some 18) (h := ?_)
      refine done_ (done_of HT_.out (by kernel_rfl)) ?_
      try go_wp2
      go_meet
      case rel => exact ⟨_, (false), q4_, H', ⟨by have := HJ6.out; first | omega | exact Nat.le_refl _⟩, ⟨by (with_reducible repeat (first | apply Kd.R_alloc | apply Kd.R_drewN | apply Kd.R_drew)); exact Kd.R_mono HO178.out (fun _ hk => hk.1.2)⟩, ⟨by (with_reducible repeat (first | apply Kd.R_alloc | apply Kd.R_drewN | apply Kd.R_drew)); exact Kd.R_mono HO182.out (fun _ hk => hk.1.2)⟩, ⟨by (with_reducible repeat (first | refine blk_drewN ?_ _ | refine blk_drew ?_ | refine blk_alloc ?_ _)); exact BK174.out⟩, ⟨by (with_reducible repeat (first | refine blk_drewN ?_ _ | refine blk_drew ?_ | refine blk_alloc ?_ _)); exact BK175.out⟩, ⟨by repeat (first | (with_reducible first | exact HB.out | apply below_alloc | apply pw_below_drewN | apply below_drew1 | refine below_set ?_ GE174.out | refine below_set ?_ GE175.out) | exact HB.out)⟩⟩
    case rest =>
     clear HC29
     try clear p2
     try clear c3
     try clear c4
     try clear c5
     try clear c7
     try clear c8
     try clear c9
     try clear c35
     try clear c36
     try clear c36b0
     try clear c36b1
     obtain ⟨kq, x18_28, rfl, HA, HJ28, HO_13, HO_14, BK174, BK175, HB⟩ := hcut
     cases kq with
     | zero => exact absurd HA.out (by simp [retargetlaw19_InterpretStores.j1])
     | succ kj28 =>
      have H := HA.out
      clear HA
      simp only [retargetlaw19_InterpretStores.j1] at H
      have H' := Aside0.mk H
      clear H
      go_wp2
      go_loopg [19] kj28 (fun kq v19 w' => ∃ (x14_3 : List (S36)) (x19_3 : Int), v19 = .int .i64 x19_3 ∧ Aside0 (retargetlaw19_InterpretStores.l0 kq l0 t176 x14_3 x18_28 x19_3 = some r) ∧ Aside0 (kq ≤ kj28) ∧ Aside0 (Kd.R k36 36 w' w.heap.size (fun k_ => some k_ ≠ (v181 : Value).ownBlock) (.slice Ao31 t176.length co31) t176) ∧ Aside0 (Kd.R k36 36 w' w.heap.size (fun k_ => some k_ ≠ ((.slice Ao31 t176.length co31) : Value).ownBlock) v181 x14_3) ∧ Aside0 (w'.heap[gb174]? = some (.cells #[(.slice A4_0 l4_0.length c4_0), .int .u8 a4_1, .int .u64 a4_2, (.slice A4_3 l4_3.length c4_3)] 26 (0, 0))) ∧ Aside0 (w'.heap[gb175]? = some (.cells #[(.slice A5_0 l5_0.length c5_0), .int .u8 a5_1, .int .u64 a5_2, (.slice A5_3 l5_3.length c5_3)] 26 (0, 0))) ∧ Aside0 (Below w.heap.size w w'))
      case atStart => exact ⟨(t179), (0), q4_, H', ⟨Nat.le_refl _⟩, ⟨by (with_reducible repeat (first | apply Kd.R_alloc | apply Kd.R_drewN | apply Kd.R_drew)); exact HO_13.out⟩, ⟨by (with_reducible repeat (first | apply Kd.R_alloc | apply Kd.R_drewN | apply Kd.R_drew)); exact HO_14.out⟩, ⟨by (with_reducible repeat (first | refine blk_drewN ?_ _ | refine blk_drew ?_ | refine blk_alloc ?_ _)); exact BK174.out⟩, ⟨by (with_reducible repeat (first | refine blk_drewN ?_ _ | refine blk_drew ?_ | refine blk_alloc ?_ _)); exact BK175.out⟩, ⟨by repeat (first | (with_reducible first | exact HB.out | apply below_alloc | apply pw_below_drewN | apply below_drew1 | refine below_set ?_ GE174.out | refine below_set ?_ GE175.out) | exact HB.out)⟩⟩
      case round =>
       clear H'
       try clear p2
       try clear c3
       try clear c4
       try clear c5
       try clear c7
       try clear c8
       try clear c9
       try clear c35
       try clear c36
       try clear c36b0
       try clear c36b1
       try clear p2
       obtain ⟨x14_3, x19_3, rfl, HA, HK3, HO_13, HO_14, BK174, BK175, HB⟩ := hrel
       cases gk with
       | zero => exact absurd HA.out (by simp [retargetlaw19_InterpretStores.l0])
       | succ k3 =>
        have H := HA.out
        clear HA
        simp only [retargetlaw19_InterpretStores.l0] at H
        by_cases c58 : x19_3 < (x14_3.length : Int)
        ·rw [if_pos c58] at H
         have c58b0 : decide (x19_3 < (x14_3.length : Int)) = true := decide_eq_true c58
         clear c58
         by_cases c59 : 0 ≤ x19_3
         ·rw [if_pos c59] at H
          have c59b0 : decide (0 ≤ x19_3) = true := decide_eq_true c59
          clear c59
          obtain ⟨y191, hy191⟩ : ∃ y_ : List (S36), y_ = (x14_3.set (x19_3 : Int).toNat (⟨(rd_T36 x14_3 x19_3).f0, 99⟩ : S36)) := ⟨_, rfl⟩
          replace H : (retargetlaw19_InterpretStores.l0 k3 l0 t176 y191 x18_28 (wrap64 (x19_3 + 1))) = some r := by first | (rw [hy191]; with_reducible exact H) | (have H2_ := (Option.bind_some _ _).symm.trans H; rw [hy191]; with_reducible exact H2_) | (have H2_ := (Option.bind_some _ _).symm.trans H; with_reducible exact H2_) | with_reducible exact H | (rw [hy191]; exact H) | exact H
          have Ny191 := Aside0.mk hy191
          clear hy191
          have H' := Aside0.mk H
          clear H
          obtain ⟨Ao61, co61, eo61⟩ := Kd.R_slice HO_14.out
          subst eo61
          have p60 : 0 ≤ (x19_3 : Int) := of_decide_eq_true q2_
          have q60 : (x19_3 : Int) < ((x14_3.length : Int) : Int) := of_decide_eq_true q2_
          obtain ⟨go60, co60, eo60, gb60, gl60, cl60, HG60⟩ := Kd.R_form HO_14.out (by omega)
          (first | cases eo60 | (injection eo60 with ea_ en_ ec_; (first | subst ea_ | (injection ea_ with ea_; subst ea_)); subst ec_; clear en_))
          have GB60 := Aside0.mk gb60
          have GG60 := Aside0.mk HG60
          clear gb60 gl60 HG60
          obtain ⟨ce60, hcl60, hM60, hcc60, hfr60⟩ := Kd.R_elem HO_14.out z36 (x19_3 : Int) p60 q60
          obtain rfl := k36_openM hM60
          have hx60_0 : wr.cell? ⟨go60, (x19_3 : Int).toNat * 2, none⟩ = some (.int .u64 ((rd_T36 x14_3 x19_3).f0)) := hcc60 0 _ rfl
          have hx60_1 : wr.cell? ⟨go60, (x19_3 : Int).toNat * 2 + 1, none⟩ = some (.int .u8 ((rd_T36 x14_3 x19_3).f1)) := hcc60 1 _ rfl
          have hf60_0 : wr.frozen? ⟨go60, (x19_3 : Int).toNat * 2, none⟩ = false := hfr60 0
          have hf60_1 : wr.frozen? ⟨go60, (x19_3 : Int).toNat * 2 + 1, none⟩ = false := hfr60 1
          clear hcl60 hcc60 hfr60 hM60
          replace p60 := eq_true p60
          replace q60 := eq_true q60
          have HX62 := Aside0.mk (show Kd.R k36 36 wr w.heap.size (fun k_ => some k_ ≠ (.slice Ao31 t176.length co31 : Value).ownBlock) (.slice (some ⟨go60, 0, none⟩) x14_3.length co61) x14_3 from (by (with_reducible repeat (first | apply Kd.R_alloc | apply Kd.R_drewN | apply Kd.R_drew)); exact HO_14.out))
          obtain ⟨ce62, hcl62, hM62, hcc62, hfr62⟩ := Kd.R_elem HX62.out z36 (x19_3 : Int) (of_decide_eq_true q2_) (by have h_ : (x19_3 : Int) < ((x14_3.length : Int) : Int) := of_decide_eq_true q2_; first | exact h_ | (have e_ := (Kd.R_reads' HO_14.out).1; omega) | simpa using h_)
          obtain rfl := k36_openM hM62
          have HP62 := Kd.R_seg HX62.out (x19_3 : Int) (of_decide_eq_true q2_) (by have h_ : (x19_3 : Int) < ((x14_3.length : Int) : Int) := of_decide_eq_true q2_; first | exact h_ | (have e_ := (Kd.R_reads' HO_14.out).1; omega) | simpa using h_) (seg := [.int .u8 99]) (j := 1) hcl62 hcc62 (show 2 ≤ 2 from by decide) (x' := (⟨(rd_T36 x14_3 x19_3).f0, 99⟩ : S36)) (k36_mkM _ _ _ (⟨(rd_T36 x14_3 x19_3).f0, 99⟩ : S36) ) (fun _ hk => hk)
          have hx62_1 := hcc62 1 _ rfl
          (try simp only [show (k36).sz = 2 from rfl, Nat.mul_one, Nat.add_zero] at hx62_1)
          have hf62_1 := hfr62 1
          (try simp only [show (k36).sz = 2 from rfl, Nat.mul_one, Nat.add_zero] at hf62_1)
          clear hcl62 hcc62 hfr62 hM62
          go_wp2_with (first | ((with_reducible refine gate_store (t := 5) (p := 96) rfl ?_); refine store_event (t := 5) (p := 96) (v := ?vo_w63) (w1 := (wr.setCell ⟨go60, (x19_3 : Int).toNat * 2 + 1, none⟩ (.int .u8 99))) ?hg ?ho ?hn ?hr ?_; (case ho => rfl); (case hg => rfl); (case hn => rfl); (case hr => first | (go_simp; done) | (go_simp; rfl)); intro w63 hw; have hg : wr.grownBy w63 (some go60) := (by rw [hw]; exact HP62.2); have hp_ : Kd.R k36 36 w63 w.heap.size (fun k_ => some k_ ≠ (.slice Ao31 t176.length co31 : Value).ownBlock) (.slice (some ⟨go60, 0, none⟩) x14_3.length co61) y191 := (by rw [hw, Ny191.out]; exact HP62.1); clear HP62; have n0_ := Aside0.mk (Kd.R_after (v := (.slice (some ⟨go60, 0, none⟩) x14_3.length co61)) (v1 := (.slice (some ⟨go60, 0, none⟩) x14_3.length co61)) (ok := (fun _ => True)) (by (with_reducible repeat (first | apply Kd.R_alloc | apply Kd.R_drewN | apply Kd.R_drew)); exact Kd.R_mono HO_13.out (fun _ hk => ⟨trivial, hk⟩)) hg (.inl rfl)); have n1_ := Aside0.mk (hp_); have n2_ := Aside0.mk (blk_grown (g := gb174) (o := .cells #[.slice A4_0 l4_0.length c4_0, .int .u8 a4_1, .int .u64 a4_2, .slice A4_3 l4_3.length c4_3] 26 (0, 0)) q9_ hg (Kd.R_ne HO_14.out BK174.out (by decide))); have n3_ := Aside0.mk (blk_grown (g := gb175) (o := .cells #[.slice A5_0 l5_0.length c5_0, .int .u8 a5_1, .int .u64 a5_2, .slice A5_3 l5_3.length c5_3] 26 (0, 0)) q13_ hg (Kd.R_ne HO_14.out BK175.out (by decide))); have n4_ := Aside0.mk ((by rw [hw]; exact below_set (HB.out) GB60.out : Below w.heap.size w w63)); clear HO_13; clear HO_14; clear BK174; clear BK175; clear HB; have HO_13 := n0_; have HO_14 := n1_; have BK174 := n2_; have BK175 := n3_; have HB := n4_; clear n0_ n1_ n2_ n3_ n4_; clear hg hw hp_))
          go_roundg k3
          case measure => have := HJ6.out; have := HJ28.out; have := HK3.out; omega
          case rel => exact ⟨(y191), (wrap64 (x19_3 + 1)), q4_, H', ⟨by have := HJ6.out; have := HJ28.out; have := HK3.out; omega⟩, ⟨by (with_reducible repeat (first | apply Kd.R_alloc | apply Kd.R_drewN | apply Kd.R_drew)); exact Kd.R_mono HO_13.out (fun _ hk => hk.2)⟩, ⟨by (with_reducible repeat (first | apply Kd.R_alloc | apply Kd.R_drewN | apply Kd.R_drew)); exact HO_14.out⟩, ⟨by (with_reducible repeat (first | refine blk_drewN ?_ _ | refine blk_drew ?_ | refine blk_alloc ?_ _)); exact BK174.out⟩, ⟨by (with_reducible repeat (first | refine blk_drewN ?_ _ | refine blk_drew ?_ | refine blk_alloc ?_ _)); exact BK175.out⟩, ⟨by repeat (first | (with_reducible first | exact HB.out | apply below_alloc | apply pw_below_drewN | apply below_drew1 | refine below_set ?_ GE174.out | refine below_set ?_ GE175.out) | exact HB.out)⟩⟩
         ·rw [if_neg c59] at H
          exact absurd H (by simp)
        ·rw [if_neg c58] at H
         have c58b0 : decide (x19_3 < (x14_3.length : Int)) = false := decide_eq_false c58
         clear c58
         by_cases c64 : x18_28 = true
         ·subst c64
          have H1 : ((retargetref19_SameCells.f k3 t176 l0).bind fun t192 => (some t192)) = some r := by rw [if_pos rfl] at H; exact H
          clear H
          have H := H1
          clear H1
          replace H := Option.bind_eq_some_iff.mp H
          obtain ⟨t192, A650, H⟩ := H
          replace H : (some t192) = some r := H
          have A65 := Aside0.mk A650
          clear A650
          obtain rfl := Option.some.inj H
          obtain ⟨Ao66, co66, eo66⟩ := Kd.R_slice HO_14.out
          subst eo66
          go_wp2_with (first | (go_at_call 7; (with_reducible refine (retargetref19_SameCells.calls k3 _ _ t176 _ _ l0 t192 _ ?side1 ?side2 ?side3 ?side4 A65.out).mono ?_); (case side1 => repeat (first | exact (Kd.R_reads' HO_13.out).2.2 | (with_reducible refine Kd.C_alloc ?_ _) | (with_reducible refine Kd.C_drewN ?_ _) | (with_reducible refine Kd.C_drew ?_))); (case side2 => exact (Kd.R_reads' HO_13.out).2.1); (case side3 => repeat (first | exact (Kd.C_below HR0.out HB.out) | (with_reducible refine Kd.C_alloc ?_ _) | (with_reducible refine Kd.C_drewN ?_ _) | (with_reducible refine Kd.C_drew ?_))); (case side4 => exact HC0.out); rintro e w' ⟨rfl, ⟨nd, rfl⟩⟩))
          go_ret
          exact ⟨by first | rfl | (simp [errW_none, errW_some] <;> rfl) | (simp [*, errW_none, errW_some] <;> rfl), by repeat (first | (with_reducible first | exact HB.out | apply below_alloc | apply pw_below_drewN | apply below_drew1 | refine below_set ?_ GE174.out | refine below_set ?_ GE175.out) | exact HB.out)⟩
         ·replace c64 := Bool.eq_false_iff.mpr c64
          subst c64
          have H1 : (some false) = some r := by rw [if_neg (show ¬ (false = true) by decide)] at H; exact H
          clear H
          have H := H1
          clear H1
          obtain rfl := Option.some.inj H
          obtain ⟨Ao67, co67, eo67⟩ := Kd.R_slice HO_14.out
          subst eo67
          go_wp2
          go_ret
          exact ⟨by first | rfl | (simp [errW_none, errW_some] <;> rfl) | (simp [*, errW_none, errW_some] <;> rfl), by repeat (first | (with_reducible first | exact HB.out | apply below_alloc | apply pw_below_drewN | apply below_drew1 | refine below_set ?_ GE174.out | refine below_set ?_ GE175.out) | exact HB.out)⟩

end Go.Proofs.Ytpogkinegkfokaa.MInterpretStores
