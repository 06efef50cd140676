/- term.widths by hand, one way for each shape. No condition. -/
import Derived.Test.YtjopdafckhkmmaaDoorCBSatHBSTermShape
import Derived.BigQuiet
import Derived.BigGuard
import Derived.Deep.QuietTactic
import Derived.Test.YtjopdafckhkmmaaDoorCBSatMBSx2
import Derived.Test.YtjopdafckhkmmaaDoorCBSatMBSx2
set_option linter.unusedVariables false
set_option linter.unusedSimpArgs false
namespace Go.Proofs.YtjopdafckhkmmaaDoor.MBS
open Go.Proofs.YtjopdafckhkmmaaDoor.Zed Go.RowKit Go.Proofs.YtjopdafckhkmmaaDoorW.PrintWords Go.Proofs.YtjopdafckhkmmaaDoorW.PrintLast Go.Proofs.YtjopdafckhkmmaaDoorW.PrintMore
theorem add_zero_ (a : Addr) : a.add 0 = a := by unfold Addr.add; split <;> simp_all
theorem add_blk_ (a : Addr) (k : Nat) : (a.add k).block = a.block := by unfold Addr.add; split <;> simp_all
theorem add_off_ (a : Addr) (k : Nat) : (a.add k).off = a.off + k := by unfold Addr.add; split <;> simp_all
def wdt (x : Tm) (i : Nat) : Int := (rd_T25 x.f5 (i : Int)).f1
def wideB (a : Int) : Bool := decide (1 ≤ a) && decide (a ≤ 64)
def loadB (a : Int) : Bool := (a == 8) || ((a == 16) || ((a == 32) || (a == 64)))
theorem wide_same (a : Int) (w : World) : Calls Tryd.prog 74 #[.int .i64 a] w fun e w' => e = .returned (.bool (wideB a)) ∧ w' = w := by
  by_cases h : 1 ≤ a
  · have e : wideB a = decide (a ≤ 64) := by simp [wideB, h]
    rw [e]
    clear e
    go_enter Tryd.func74, Tryd.ntmps74
    go_wp2
    go_ret
    exact ⟨rfl, rfl⟩
  · have e : wideB a = false := by simp [wideB, h]
    have hd : decide (1 ≤ a) = false := by simpa using h
    clear h
    rw [e]
    clear e
    go_enter Tryd.func74, Tryd.ntmps74
    go_wp2
    go_ret
    exact ⟨rfl, rfl⟩
theorem loadable_same (a : Int) (w : World) : Calls Tryd.prog 97 #[.int .i64 a] w fun e w' => e = .returned (.bool (loadB a)) ∧ w' = w := by
  have key : ∀ b : Bool, loadB a = b → Calls Tryd.prog 97 #[.int .i64 a] w fun e w' => e = .returned (.bool b) ∧ w' = w := by
    intro b hb
    unfold loadB at hb
    cases h1 : (a == 8)
    · cases h2 : (a == 16)
      · cases h3 : (a == 32)
        · rw [h1, h2, h3] at hb
          simp only [Bool.false_or] at hb
          have HB := Aside0.mk hb
          clear hb
          go_enter Tryd.func97, Tryd.ntmps97
          go_wp2
          go_ret
          exact ⟨ret_bool HB.out, rfl⟩
        · rw [h1, h2, h3] at hb
          obtain rfl : true = b := by simpa using hb
          clear hb
          go_enter Tryd.func97, Tryd.ntmps97
          go_wp2
          go_ret
          exact ⟨rfl, rfl⟩
      · rw [h1, h2] at hb
        obtain rfl : true = b := by simpa using hb
        clear hb
        go_enter Tryd.func97, Tryd.ntmps97
        go_wp2
        go_ret
        exact ⟨rfl, rfl⟩
    · rw [h1] at hb
      obtain rfl : true = b := by simpa using hb
      clear hb
      go_enter Tryd.func97, Tryd.ntmps97
      go_wp2
      go_ret
      exact ⟨rfl, rfl⟩
  exact key _ rfl
theorem wideB_range {a : Int} (h : wideB a = true) : 1 ≤ a ∧ a ≤ 64 := by simpa [wideB] using h
set_option maxRecDepth 100000 in
set_option maxHeartbeats 2000000 in
theorem widths1_calls (x : Tm) (cs : List Value) (w : World) (hK : kT.K w x cs) (hl : 1 ≤ x.f5.length) :
    Calls Tryd.prog 76 #[.agg cs.toArray, .int .i64 1] w fun e w' => e = .returned (.bool (!decide (0 ≤ idxW x.f5 x.f1 0))) ∧ Below w.heap.size w w' := by
  obtain ⟨A5, c5, rfl, l5, g5⟩ := k25_open hK
  have hu25 := Tryd.underlying25
  have hm := g5.2.1
  obtain ⟨ad0, A'0, c'0, e0, q0, q1_0, q2, q3, q4, q5, l', g'⟩ := at_T25 g5 0 q29_ q29_
  subst e0
  clear q0 q2 q3 q4 q5 l' g'
  simp only [show (0 : Int).toNat * 6 = 0 from rfl, add_zero_] at q1_0
  have hlt0 := World.block_lt_of_cell? w _ q1_0
  have hmf : ∀ (fn : Fn) (first cap : Array Value) (w : World), (Instr.makeFunc fn first cap).run Tryd.prog w = .ok (.func fn first cap) w := fun _ _ _ _ => rfl
  have HG := Aside0.mk g5
  clear g5 hK
  go_enter Tryd.func76, Tryd.ntmps76
  go_wp2_with fail
  refine (ContainsFunc_calls _ _ x.f5 _ (w.heap.size + 1) x.f1 (Kd.C_below HG.out (below_alloc (below_alloc (Below.refl _ _) _) _)) l5 (by have := blk_new (w.alloc (.cells #[.int .u8 x.f0, .int .i64 x.f1, .int .u64 x.f2, .string x.f3, .int .i64 x.f4, .slice (some ad0) x.f5.length c5] 25)) (.cells #[.int .i64 x.f1] 3); rwa [World.size_alloc] at this)).mono ?_
  rintro e w' ⟨rfl, hb⟩
  have HB := Aside0.mk hb
  clear hb
  go_wp2
  go_ret
  exact ⟨rfl, below_step (below_alloc (below_alloc (Below.refl _ _) _) _) HB.out⟩
set_option maxRecDepth 100000 in
set_option maxHeartbeats 2000000 in
theorem widths2_calls (x : Tm) (cs : List Value) (w : World) (hK : kT.K w x cs) (hl : 2 ≤ x.f5.length) :
    Calls Tryd.prog 76 #[.agg cs.toArray, .int .i64 2] w fun e w' => e = .returned (.bool ((x.f1 == 1) && ((rd_T25 x.f5 1).f1 == (rd_T25 x.f5 0).f1))) ∧ Below w.heap.size w w' := by
  obtain ⟨A5, c5, rfl, l5, g5⟩ := k25_open hK
  have hu25 := Tryd.underlying25
  have hm := g5.2.1
  obtain ⟨ad0, A'0, c'0, e0, q0, q1_0, q2, q3, q4, q5, l', g'⟩ := at_T25 g5 0 q29_ q29_
  subst e0
  clear q0 q2 q3 q4 q5 l' g'
  simp only [show (0 : Int).toNat * 6 = 0 from rfl, add_zero_] at q1_0
  have hlt0 := World.block_lt_of_cell? w _ q1_0
  obtain ⟨ad1, A'1, c'1, e1, q0, q1_1, q2, q3, q4, q5, l', g'⟩ := at_T25 g5 1 q29_ q29_
  obtain rfl : ad0 = ad1 := by injection e1
  clear q0 q2 q3 q4 q5 l' g' e1
  simp only [show (1 : Int).toNat * 6 = 6 from rfl, add_blk_, add_off_] at q1_1
  have hlt1 := World.block_lt_of_cell? w _ q1_1
  have hmf : ∀ (fn : Fn) (first cap : Array Value) (w : World), (Instr.makeFunc fn first cap).run Tryd.prog w = .ok (.func fn first cap) w := fun _ _ _ _ => rfl
  have HG := Aside0.mk g5
  clear g5 hK
  by_cases h1 : x.f1 = 1
  · have b1 : (x.f1 == 1) = true := by simp [h1]
    clear h1
    rw [b1]
    go_enter Tryd.func76, Tryd.ntmps76
    go_wp2
    go_ret
    exact ⟨rfl, by repeat (first | exact Below.refl _ _ | apply below_alloc | apply pw_below_drewN | apply below_drew1)⟩
  · have b1 : (x.f1 == 1) = false := by simp [h1]
    clear h1
    rw [b1]
    go_enter Tryd.func76, Tryd.ntmps76
    go_wp2
    go_ret
    exact ⟨rfl, by repeat (first | exact Below.refl _ _ | apply below_alloc | apply pw_below_drewN | apply below_drew1)⟩
set_option maxRecDepth 100000 in
set_option maxHeartbeats 2000000 in
theorem widths3_calls (x : Tm) (cs : List Value) (w : World) (hK : kT.K w x cs) (hl : 3 ≤ x.f5.length) :
    Calls Tryd.prog 76 #[.agg cs.toArray, .int .i64 3] w fun e w' => e = .returned (.bool (((rd_T25 x.f5 0).f1 == 1) && (((rd_T25 x.f5 1).f1 == x.f1) && ((rd_T25 x.f5 2).f1 == x.f1)))) ∧ Below w.heap.size w w' := by
  obtain ⟨A5, c5, rfl, l5, g5⟩ := k25_open hK
  have hu25 := Tryd.underlying25
  have hm := g5.2.1
  obtain ⟨ad0, A'0, c'0, e0, q0, q1_0, q2, q3, q4, q5, l', g'⟩ := at_T25 g5 0 q29_ q29_
  subst e0
  clear q0 q2 q3 q4 q5 l' g'
  simp only [show (0 : Int).toNat * 6 = 0 from rfl, add_zero_] at q1_0
  have hlt0 := World.block_lt_of_cell? w _ q1_0
  obtain ⟨ad1, A'1, c'1, e1, q0, q1_1, q2, q3, q4, q5, l', g'⟩ := at_T25 g5 1 q29_ q29_
  obtain rfl : ad0 = ad1 := by injection e1
  clear q0 q2 q3 q4 q5 l' g' e1
  simp only [show (1 : Int).toNat * 6 = 6 from rfl, add_blk_, add_off_] at q1_1
  have hlt1 := World.block_lt_of_cell? w _ q1_1
  obtain ⟨ad2, A'2, c'2, e2, q0, q1_2, q2, q3, q4, q5, l', g'⟩ := at_T25 g5 2 q29_ q29_
  obtain rfl : ad0 = ad2 := by injection e2
  clear q0 q2 q3 q4 q5 l' g' e2
  simp only [show (2 : Int).toNat * 6 = 12 from rfl, add_blk_, add_off_] at q1_2
  have hlt2 := World.block_lt_of_cell? w _ q1_2
  have hmf : ∀ (fn : Fn) (first cap : Array Value) (w : World), (Instr.makeFunc fn first cap).run Tryd.prog w = .ok (.func fn first cap) w := fun _ _ _ _ => rfl
  have HG := Aside0.mk g5
  clear g5 hK
  have hWb : Below w.heap.size w ((w.alloc (.cells #[.int .u8 x.f0, .int .i64 x.f1, .int .u64 x.f2, .string x.f3, .int .i64 x.f4, .slice (some ad0) x.f5.length c5] 25)).alloc (.cells #[.int .i64 x.f1] 3)) := below_alloc (below_alloc (Below.refl _ _) _) _
  have hWx := blk_alloc (blk_new w (.cells #[.int .u8 x.f0, .int .i64 x.f1, .int .u64 x.f2, .string x.f3, .int .i64 x.f4, .slice (some ad0) x.f5.length c5] 25)) (.cells #[.int .i64 x.f1] 3)
  have hWv := blk_new (w.alloc (.cells #[.int .u8 x.f0, .int .i64 x.f1, .int .u64 x.f2, .string x.f3, .int .i64 x.f4, .slice (some ad0) x.f5.length c5] 25)) (.cells #[.int .i64 x.f1] 3)
  rw [World.size_alloc] at hWv
  obtain ⟨W2, hW2⟩ : ∃ W2, W2 = (w.alloc (.cells #[.int .u8 x.f0, .int .i64 x.f1, .int .u64 x.f2, .string x.f3, .int .i64 x.f4, .slice (some ad0) x.f5.length c5] 25)).alloc (.cells #[.int .i64 x.f1] 3) := ⟨_, rfl⟩
  rw [← hW2] at hWb hWx hWv
  have z4 := (blk_cell hWx 4).trans (show _ = some (Value.int .i64 x.f4) from rfl)
  have z5 := (blk_cell hWx 5).trans (show _ = some (Value.slice (some ad0) x.f5.length c5) from rfl)
  have zv := (blk_cell hWv 0).trans (show _ = some (Value.int .i64 x.f1) from rfl)
  have y1_0 := (hWb.cell hlt0).trans q1_0
  have y1_1 := (hWb.cell hlt1).trans q1_1
  have y1_2 := (hWb.cell hlt2).trans q1_2
  have HWB := Aside0.mk hWb
  have HW2 := Aside0.mk hW2
  clear hWx hWv hWb hW2
  cases b2 : ((rd_T25 x.f5 0).f1 == 1)
  · simp only [Bool.false_and, Bool.and_false]
    go_enter Tryd.func76, Tryd.ntmps76
    go_wp2
    rw [← HW2.out]
    go_quiet (fail)
    go_wp2
    go_ret
    exact ⟨rfl, by repeat (first | exact HWB.out | apply below_alloc | apply pw_below_drewN | apply below_drew1)⟩
  · simp only [Bool.true_and, Bool.and_true]
    cases b1 : ((rd_T25 x.f5 1).f1 == x.f1)
    · simp only [Bool.false_and, Bool.and_false]
      go_enter Tryd.func76, Tryd.ntmps76
      go_wp2
      rw [← HW2.out]
      go_quiet (fail)
      go_wp2
      go_ret
      exact ⟨rfl, by repeat (first | exact HWB.out | apply below_alloc | apply pw_below_drewN | apply below_drew1)⟩
    · simp only [Bool.true_and, Bool.and_true]
      go_enter Tryd.func76, Tryd.ntmps76
      go_wp2
      rw [← HW2.out]
      go_quiet (fail)
      go_wp2
      go_ret
      exact ⟨rfl, by repeat (first | exact HWB.out | apply below_alloc | apply pw_below_drewN | apply below_drew1)⟩
set_option maxRecDepth 100000 in
set_option maxHeartbeats 2000000 in
theorem widths4_calls (x : Tm) (cs : List Value) (w : World) (hK : kT.K w x cs) (hl : 2 ≤ x.f5.length) :
    Calls Tryd.prog 76 #[.agg cs.toArray, .int .i64 4] w fun e w' => e = .returned (.bool (wideB (rd_T25 x.f5 0).f1 && (wideB (rd_T25 x.f5 1).f1 && ((rd_T25 x.f5 0).f1 + (rd_T25 x.f5 1).f1 == x.f1)))) ∧ Below w.heap.size w w' := by
  obtain ⟨A5, c5, rfl, l5, g5⟩ := k25_open hK
  have hu25 := Tryd.underlying25
  have hm := g5.2.1
  obtain ⟨ad0, A'0, c'0, e0, q0, q1_0, q2, q3, q4, q5, l', g'⟩ := at_T25 g5 0 q29_ q29_
  subst e0
  clear q0 q2 q3 q4 q5 l' g'
  simp only [show (0 : Int).toNat * 6 = 0 from rfl, add_zero_] at q1_0
  have hlt0 := World.block_lt_of_cell? w _ q1_0
  obtain ⟨ad1, A'1, c'1, e1, q0, q1_1, q2, q3, q4, q5, l', g'⟩ := at_T25 g5 1 q29_ q29_
  obtain rfl : ad0 = ad1 := by injection e1
  clear q0 q2 q3 q4 q5 l' g' e1
  simp only [show (1 : Int).toNat * 6 = 6 from rfl, add_blk_, add_off_] at q1_1
  have hlt1 := World.block_lt_of_cell? w _ q1_1
  have hmf : ∀ (fn : Fn) (first cap : Array Value) (w : World), (Instr.makeFunc fn first cap).run Tryd.prog w = .ok (.func fn first cap) w := fun _ _ _ _ => rfl
  have HG := Aside0.mk g5
  clear g5 hK
  have hWb : Below w.heap.size w ((w.alloc (.cells #[.int .u8 x.f0, .int .i64 x.f1, .int .u64 x.f2, .string x.f3, .int .i64 x.f4, .slice (some ad0) x.f5.length c5] 25)).alloc (.cells #[.int .i64 x.f1] 3)) := below_alloc (below_alloc (Below.refl _ _) _) _
  have hWx := blk_alloc (blk_new w (.cells #[.int .u8 x.f0, .int .i64 x.f1, .int .u64 x.f2, .string x.f3, .int .i64 x.f4, .slice (some ad0) x.f5.length c5] 25)) (.cells #[.int .i64 x.f1] 3)
  have hWv := blk_new (w.alloc (.cells #[.int .u8 x.f0, .int .i64 x.f1, .int .u64 x.f2, .string x.f3, .int .i64 x.f4, .slice (some ad0) x.f5.length c5] 25)) (.cells #[.int .i64 x.f1] 3)
  rw [World.size_alloc] at hWv
  obtain ⟨W2, hW2⟩ : ∃ W2, W2 = (w.alloc (.cells #[.int .u8 x.f0, .int .i64 x.f1, .int .u64 x.f2, .string x.f3, .int .i64 x.f4, .slice (some ad0) x.f5.length c5] 25)).alloc (.cells #[.int .i64 x.f1] 3) := ⟨_, rfl⟩
  rw [← hW2] at hWb hWx hWv
  have z4 := (blk_cell hWx 4).trans (show _ = some (Value.int .i64 x.f4) from rfl)
  have z5 := (blk_cell hWx 5).trans (show _ = some (Value.slice (some ad0) x.f5.length c5) from rfl)
  have zv := (blk_cell hWv 0).trans (show _ = some (Value.int .i64 x.f1) from rfl)
  have y1_0 := (hWb.cell hlt0).trans q1_0
  have y1_1 := (hWb.cell hlt1).trans q1_1
  have HWB := Aside0.mk hWb
  have HW2 := Aside0.mk hW2
  clear hWx hWv hWb hW2
  cases b2 : wideB (rd_T25 x.f5 0).f1
  · simp only [Bool.false_and]
    have hw0 : ∀ W : World, Calls Tryd.prog 74 #[.int .i64 (rd_T25 x.f5 0).f1] W fun e w' => e = .returned (.bool false) ∧ w' = W := fun W => by have h := wide_same (rd_T25 x.f5 0).f1 W; rwa [b2] at h
    have hw1 := hw0
    go_enter Tryd.func76, Tryd.ntmps76
    go_wp2
    rw [← HW2.out]
    go_quiet ((go_at_call 74; first | (with_reducible exact Calls.quiet_of_same (hw0 _)) | (with_reducible exact Calls.quiet_of_same (hw1 _))))
    go_wp2
    go_ret
    exact ⟨rfl, by repeat (first | exact HWB.out | apply below_alloc | apply pw_below_drewN | apply below_drew1)⟩
  · simp only [Bool.true_and]
    have hw0 : ∀ W : World, Calls Tryd.prog 74 #[.int .i64 (rd_T25 x.f5 0).f1] W fun e w' => e = .returned (.bool true) ∧ w' = W := fun W => by have h := wide_same (rd_T25 x.f5 0).f1 W; rwa [b2] at h
    cases b1 : wideB (rd_T25 x.f5 1).f1
    · simp only [Bool.false_and]
      have hw1 : ∀ W : World, Calls Tryd.prog 74 #[.int .i64 (rd_T25 x.f5 1).f1] W fun e w' => e = .returned (.bool false) ∧ w' = W := fun W => by have h := wide_same (rd_T25 x.f5 1).f1 W; rwa [b1] at h
      go_enter Tryd.func76, Tryd.ntmps76
      go_wp2
      rw [← HW2.out]
      go_quiet ((go_at_call 74; first | (with_reducible exact Calls.quiet_of_same (hw0 _)) | (with_reducible exact Calls.quiet_of_same (hw1 _))))
      go_wp2
      go_ret
      exact ⟨rfl, by repeat (first | exact HWB.out | apply below_alloc | apply pw_below_drewN | apply below_drew1)⟩
    · simp only [Bool.true_and]
      have hw1 : ∀ W : World, Calls Tryd.prog 74 #[.int .i64 (rd_T25 x.f5 1).f1] W fun e w' => e = .returned (.bool true) ∧ w' = W := fun W => by have h := wide_same (rd_T25 x.f5 1).f1 W; rwa [b1] at h
      have hr0 := wideB_range b2
      have hr1 := wideB_range b1
      go_enter Tryd.func76, Tryd.ntmps76
      go_wp2
      rw [← HW2.out]
      go_quiet ((go_at_call 74; first | (with_reducible exact Calls.quiet_of_same (hw0 _)) | (with_reducible exact Calls.quiet_of_same (hw1 _))))
      go_wp2
      go_ret
      exact ⟨rfl, by repeat (first | exact HWB.out | apply below_alloc | apply pw_below_drewN | apply below_drew1)⟩
set_option maxRecDepth 100000 in
set_option maxHeartbeats 2000000 in
theorem widths5_calls (x : Tm) (cs : List Value) (w : World) (hK : kT.K w x cs) (hl : 1 ≤ x.f5.length) (hx0 : 1 ≤ x.f1) (hx1 : x.f1 ≤ 64) :
    Calls Tryd.prog 76 #[.agg cs.toArray, .int .i64 5] w fun e w' => e = .returned (.bool (decide (0 ≤ x.f4) && (wideB (rd_T25 x.f5 0).f1 && (decide (x.f1 ≤ (rd_T25 x.f5 0).f1) && decide (x.f4 ≤ (rd_T25 x.f5 0).f1 - x.f1))))) ∧ Below w.heap.size w w' := by
  obtain ⟨A5, c5, rfl, l5, g5⟩ := k25_open hK
  have hu25 := Tryd.underlying25
  have hm := g5.2.1
  obtain ⟨ad0, A'0, c'0, e0, q0, q1_0, q2, q3, q4, q5, l', g'⟩ := at_T25 g5 0 q29_ q29_
  subst e0
  clear q0 q2 q3 q4 q5 l' g'
  simp only [show (0 : Int).toNat * 6 = 0 from rfl, add_zero_] at q1_0
  have hlt0 := World.block_lt_of_cell? w _ q1_0
  have hmf : ∀ (fn : Fn) (first cap : Array Value) (w : World), (Instr.makeFunc fn first cap).run Tryd.prog w = .ok (.func fn first cap) w := fun _ _ _ _ => rfl
  have HG := Aside0.mk g5
  clear g5 hK
  cases b3 : decide (0 ≤ x.f4)
  · simp only [Bool.false_and]
    have hw0 := fun W => wide_same (rd_T25 x.f5 0).f1 W
    go_enter Tryd.func76, Tryd.ntmps76
    go_wp2_with (go_at_call 74; with_reducible refine (hw0 _).mono ?_; rintro e w' ⟨rfl, rfl⟩)
    go_ret
    exact ⟨rfl, by repeat (first | exact Below.refl _ _ | apply below_alloc | apply pw_below_drewN | apply below_drew1)⟩
  · simp only [Bool.true_and]
    cases b2 : wideB (rd_T25 x.f5 0).f1
    · simp only [Bool.false_and]
      have hw0 : ∀ W : World, Calls Tryd.prog 74 #[.int .i64 (rd_T25 x.f5 0).f1] W fun e w' => e = .returned (.bool false) ∧ w' = W := fun W => by have h := wide_same (rd_T25 x.f5 0).f1 W; rwa [b2] at h
      go_enter Tryd.func76, Tryd.ntmps76
      go_wp2_with (go_at_call 74; with_reducible refine (hw0 _).mono ?_; rintro e w' ⟨rfl, rfl⟩)
      go_ret
      exact ⟨rfl, by repeat (first | exact Below.refl _ _ | apply below_alloc | apply pw_below_drewN | apply below_drew1)⟩
    · simp only [Bool.true_and]
      have hw0 : ∀ W : World, Calls Tryd.prog 74 #[.int .i64 (rd_T25 x.f5 0).f1] W fun e w' => e = .returned (.bool true) ∧ w' = W := fun W => by have h := wide_same (rd_T25 x.f5 0).f1 W; rwa [b2] at h
      have hr0 := wideB_range b2
      cases b1 : decide (x.f1 ≤ (rd_T25 x.f5 0).f1)
      · simp only [Bool.false_and]
        go_enter Tryd.func76, Tryd.ntmps76
        go_wp2_with (go_at_call 74; with_reducible refine (hw0 _).mono ?_; rintro e w' ⟨rfl, rfl⟩)
        go_ret
        exact ⟨rfl, by repeat (first | exact Below.refl _ _ | apply below_alloc | apply pw_below_drewN | apply below_drew1)⟩
      · simp only [Bool.true_and]
        have hr1 : x.f1 ≤ (rd_T25 x.f5 0).f1 := of_decide_eq_true b1
        go_enter Tryd.func76, Tryd.ntmps76
        go_wp2_with (go_at_call 74; with_reducible refine (hw0 _).mono ?_; rintro e w' ⟨rfl, rfl⟩)
        go_ret
        exact ⟨rfl, by repeat (first | exact Below.refl _ _ | apply below_alloc | apply pw_below_drewN | apply below_drew1)⟩
set_option maxRecDepth 100000 in
set_option maxHeartbeats 2000000 in
theorem widths6_calls (x : Tm) (cs : List Value) (w : World) (hK : kT.K w x cs) (hl : 1 ≤ x.f5.length) :
    Calls Tryd.prog 76 #[.agg cs.toArray, .int .i64 6] w fun e w' => e = .returned (.bool (decide ((rd_T25 x.f5 0).f1 ≤ x.f1))) ∧ Below w.heap.size w w' := by
  obtain ⟨A5, c5, rfl, l5, g5⟩ := k25_open hK
  have hu25 := Tryd.underlying25
  have hm := g5.2.1
  obtain ⟨ad0, A'0, c'0, e0, q0, q1_0, q2, q3, q4, q5, l', g'⟩ := at_T25 g5 0 q29_ q29_
  subst e0
  clear q0 q2 q3 q4 q5 l' g'
  simp only [show (0 : Int).toNat * 6 = 0 from rfl, add_zero_] at q1_0
  have hlt0 := World.block_lt_of_cell? w _ q1_0
  have hmf : ∀ (fn : Fn) (first cap : Array Value) (w : World), (Instr.makeFunc fn first cap).run Tryd.prog w = .ok (.func fn first cap) w := fun _ _ _ _ => rfl
  have HG := Aside0.mk g5
  clear g5 hK
  go_enter Tryd.func76, Tryd.ntmps76
  go_wp2
  go_ret
  exact ⟨rfl, by repeat (first | exact Below.refl _ _ | apply below_alloc | apply pw_below_drewN | apply below_drew1)⟩
set_option maxRecDepth 100000 in
set_option maxHeartbeats 2000000 in
theorem widths7_calls (x : Tm) (cs : List Value) (w : World) (hK : kT.K w x cs) (hl : 1 ≤ x.f5.length) :
    Calls Tryd.prog 76 #[.agg cs.toArray, .int .i64 7] w fun e w' => e = .returned (.bool (loadB x.f1)) ∧ Below w.heap.size w w' := by
  obtain ⟨A5, c5, rfl, l5, g5⟩ := k25_open hK
  have hu25 := Tryd.underlying25
  have hm := g5.2.1
  obtain ⟨ad0, A'0, c'0, e0, q0, q1_0, q2, q3, q4, q5, l', g'⟩ := at_T25 g5 0 q29_ q29_
  subst e0
  clear q0 q2 q3 q4 q5 l' g'
  simp only [show (0 : Int).toNat * 6 = 0 from rfl, add_zero_] at q1_0
  have hlt0 := World.block_lt_of_cell? w _ q1_0
  have hmf : ∀ (fn : Fn) (first cap : Array Value) (w : World), (Instr.makeFunc fn first cap).run Tryd.prog w = .ok (.func fn first cap) w := fun _ _ _ _ => rfl
  have HG := Aside0.mk g5
  clear g5 hK
  go_enter Tryd.func76, Tryd.ntmps76
  go_wp2_with (go_at_call 97; refine (loadable_same _ _).mono ?_; rintro e w' ⟨rfl, rfl⟩)
  go_ret
  exact ⟨rfl, by repeat (first | exact Below.refl _ _ | apply below_alloc | apply pw_below_drewN | apply below_drew1)⟩
end Go.Proofs.YtjopdafckhkmmaaDoor.MBS
