/- term.Pure by hand: valid, and no load. -/
import Derived.Test.YtjopdafckhkmmaaDoorCBSatHBSTermCheck
set_option linter.unusedVariables false
set_option linter.unusedSimpArgs false
namespace Go.Proofs.YtjopdafckhkmmaaDoor.MBS
open Go.Proofs.YtjopdafckhkmmaaDoor.Zed Go.RowKit Go.Proofs.YtjopdafckhkmmaaDoorW.PrintWords Go.Proofs.YtjopdafckhkmmaaDoorW.PrintLast Go.Proofs.YtjopdafckhkmmaaDoorW.PrintMore
attribute [local go_sem] Oper.semAt_some

/-- What Pure answers. -/
def pureB (k : Nat) (x : Tm) (d : Int) : Bool := (chkR k x d == 0) && (nd x).all fun y => y.f0 != 24
def NL (l : List Tm) : Prop := ∀ y ∈ l, (y.f0 != 24) = true
def HL (l : List Tm) : Prop := ∃ y ∈ l, (y.f0 != 24) = false
theorem NL.nil : NL [] := fun _ h => by cases h
theorem NL.snoc {l : List Tm} {y : Tm} (h : NL l) (hy : (y.f0 != 24) = true) : NL (l ++ [y]) := fun z hz => by
  rcases List.mem_append.1 hz with hz | hz
  · exact h z hz
  · rw [List.mem_singleton.1 hz]
    exact hy
theorem HL.snoc (l : List Tm) {y : Tm} (hy : (y.f0 != 24) = false) : HL (l ++ [y]) := ⟨y, by simp, hy⟩
set_option maxRecDepth 100000 in
set_option maxHeartbeats 2000000 in
theorem Pure_calls (k : Nat) (x : Tm) (cs : List Value) (d : Int) (w : World) (hK : kT.K w x cs) (hT : Tab w) (hn : (nd x).length ≤ 1000000)
    (hd : term_Depth.f k x.f0 x.f1 x.f2 x.f3 x.f4 x.f5 = some d) (hnd : ∀ y ∈ nd x, NOk k y) :
    Calls Tryd.prog 10 #[.agg cs.toArray] w fun e w' => e = .returned (.bool (pureB k x d)) ∧ Below w.heap.size w w' := by
  refine (callsIn_wide (n := 5)).1 ?_
  have HK := Aside0.mk hK
  have HCHK : ∀ W : World, Below w.heap.size w W → Calls Tryd.prog 28 #[.agg cs.toArray] W fun e w' => e = .returned (.int .i64 (chkR k x d)) ∧ Below W.heap.size W w' := fun W hW =>
    Check_calls k x cs d W (kT.K_below hW hK) (hT.below hW) hn hd hnd
  obtain ⟨A5, c5, rfl, l5, g5⟩ := k25_open hK
  have hu25 := Tryd.underlying25
  replace HCHK := Aside0.mk HCHK
  clear g5 hK hT hd hnd
  refine callsIn_of_wp_marks Tryd.func10 rfl trivial ?_ rfl
  simp only [Tryd.ntmps10, List.size_toArray, List.length_cons, List.length_nil, Nat.reduceAdd, Nat.reduceSub, Array.replicate_succ, Array.replicate_zero, List.push_toArray, List.append_toArray, List.nil_append, List.cons_append]
  gi_wp2
  obtain ⟨W1, hW1⟩ : ∃ W1, W1 = w.alloc (.cells #[.int .u8 x.f0, .int .i64 x.f1, .int .u64 x.f2, .string x.f3, .int .i64 x.f4, .slice A5 x.f5.length c5] 25) := ⟨_, rfl⟩
  obtain ⟨W2, hW2⟩ : ∃ W2, W2 = W1.alloc (.cells #[.bool false] 4) := ⟨_, rfl⟩
  have z1 : W1.heap.size = w.heap.size + 1 := by rw [hW1]; simp
  have z2 : W2.heap.size = w.heap.size + 2 := by rw [hW2]; simp [z1]
  have bx : W2.heap[w.heap.size]? = some (.cells #[.int .u8 x.f0, .int .i64 x.f1, .int .u64 x.f2, .string x.f3, .int .i64 x.f4, .slice A5 x.f5.length c5] 25 (0, 0)) := by
    rw [hW2, hW1]
    exact blk_alloc (blk_new w _) _
  have r1 : Boxed W2 (w.heap.size + 1) 4 (.bool false) := by
    rw [hW2, ← z1]
    exact Boxed.new W1 _ _
  have b2 : Below w.heap.size w W2 := by
    rw [hW2, hW1]
    exact below_alloc (below_alloc (Below.refl _ _) _) _
  refine ⟨trivial, ?_⟩
  rw [← hW1, ← hW2]
  clear hW1 hW2 z1
  refine (callsIn_wide.2 (HCHK.out W2 b2)).mono ?_
  rintro e W3 ⟨rfl, hb3⟩
  replace bx := blk_below bx hb3
  replace r1 : Boxed W3 (w.heap.size + 1) 4 (.bool false) := blk_below r1 hb3
  have b3 := below_step b2 hb3
  have z3 : w.heap.size + 2 ≤ W3.heap.size := by have := hb3.size; omega
  clear b2 hb3 z2
  have q0 := (blk_cell bx 0).trans (show _ = some (Value.int .u8 x.f0) from rfl)
  have q1 := (blk_cell bx 1).trans (show _ = some (Value.int .i64 x.f1) from rfl)
  have q2 := (blk_cell bx 2).trans (show _ = some (Value.int .u64 x.f2) from rfl)
  have q3 := (blk_cell bx 3).trans (show _ = some (Value.string x.f3) from rfl)
  have q4 := (blk_cell bx 4).trans (show _ = some (Value.int .i64 x.f4) from rfl)
  have q5 := (blk_cell bx 5).trans (show _ = some (Value.slice A5 x.f5.length c5) from rfl)
  have d1 := r1.cell
  have f1 := r1.frozen
  have HR := Aside0.mk r1
  have HB := Aside0.mk b3
  have HBX := Aside0.mk bx
  clear r1 b3 bx hn
  obtain ⟨ch, hch⟩ : ∃ c, c = chkR k x d := ⟨_, rfl⟩
  rw [← hch]
  have HCH := Aside0.mk hch
  clear hch
  by_cases hc : ch = 0
  · have hcb : (ch != 0) = false := by simp [hc]
    have HC := Aside0.mk hc
    clear hc
    gi_wp2
    refine ⟨trivial, ?_⟩
    refine (callsIn_wide.2 (nodes_calls x _ W3 (kT.K_below HB.out HK.out))).mono ?_
    rintro e w' ⟨rfl, rfl⟩
    obtain ⟨W5, hW5⟩ : ∃ W5, W5 = W3.alloc (.cells [.int .u8 x.f0, .int .i64 x.f1, .int .u64 x.f2, .string x.f3, .int .i64 x.f4, .slice A5 x.f5.length c5].toArray 25) := ⟨_, rfl⟩
    have hbx := blk_new W3 (.cells [.int .u8 x.f0, .int .i64 x.f1, .int .u64 x.f2, .string x.f3, .int .i64 x.f4, .slice A5 x.f5.length c5].toArray 25)
    rw [← hW5] at hbx
    rw [← hW5]
    have r5 : Boxed W5 (w.heap.size + 1) 4 (.bool false) := by rw [hW5]; exact HR.out.alloc _
    have b5 : Below w.heap.size w W5 := by rw [hW5]; exact below_alloc HB.out _
    have z5 : W5.heap.size = W3.heap.size + 1 := by rw [hW5]; simp
    obtain ⟨B, hB⟩ : ∃ B, B = W3.heap.size := ⟨_, rfl⟩
    rw [← hB] at hbx z3 z5 ⊢
    clear hB hW5 HR HB HBX q0 q1 q2 q3 q4 q5 d1 f1
    gi_wp2
    refine wpIn_rangeFunc_ownH (F := Fence.wide) rfl q29_ (gf := 58) (lb := #[.pointer (some ⟨B, 0, none⟩)]) rfl trivial (enters_of Tryd.func58 q28_ rfl)
      (nodes_stops (5 - 1) w.heap.size (w.heap.size + 2) B w W5 (fun _ => True) rfl q29_ x _ (fun _ _ => trivial) HK.out b5 q29_ hbx)
      (fun h k => h.trans k) (fun W l o o' hl h hc hw => kpB_b q29_ W l o o' q29_ h hc hw) (Below.refl _ _) (fun _ => rfl)
      (fun pre W => (Boxed W (w.heap.size + 1) 4 (.bool false) ∧ NL (pre.map (·.1.1))) ∧ Below w.heap.size w W ∧ B + 1 ≤ W.heap.size)
      (fun c pre W => ((Boxed W (w.heap.size + 1) 4 (.bool false) ∧ c = .ret) ∧ HL (pre.map (·.1.1))) ∧ Below w.heap.size w W)
      (OwnFrom.and (OwnFrom.and (Own.from (boxed_own _ _ _) _) (ownFrom_pure _ _)) (OwnFrom.and (ownFrom_below (Nat.le_refl _) q29_) (fun _ _ _ _ hs hg _ => Nat.le_trans hs hg.size)))
      (fun c => OwnFrom.and (OwnFrom.and (OwnFrom.and (Own.from (boxed_own _ _ _) _) (ownFrom_pure _ _)) (ownFrom_pure _ _)) (ownFrom_below (Nat.le_refl _) q29_))
      ⟨⟨r5, NL.nil⟩, b5, by omega⟩
      (fun x' a' W => ∃ Bx, B + 1 ≤ Bx ∧ W.heap[Bx]? = some (.cells x'.1.2 25 (0, 0)) ∧ a' = { tmps := #[.agg #[.int .u8 x.f0, .int .i64 x.f1, .int .u64 x.f2, .string x.f3, .int .i64 x.f4, .slice A5 x.f5.length c5], .pointer (some ⟨w.heap.size, 0, none⟩), .pointer (some ⟨w.heap.size + 1, 0, none⟩), .pointer (some ⟨Bx, 0, none⟩), .agg #[.int .u8 x.f0, .int .i64 x.f1, .int .u64 x.f2, .string x.f3, .int .i64 x.f4, .slice A5 x.f5.length c5], .int .i64 ch, .bool false, .agg #[.int .u8 x.f0, .int .i64 x.f1, .int .u64 x.f2, .string x.f3, .int .i64 x.f4, .slice A5 x.f5.length c5], .func (.func 58) #[] #[.pointer (some ⟨B, 0, none⟩)], .agg x'.1.2, undef, undef, undef], defers := [] })
      (fun x' a' _ X Y row hs hg hr => by
        obtain ⟨Bx, h1, h2, h3⟩ := hs
        exact ⟨Bx, h1, (grownBy_keeps_cells hg (fun r e => (hr r e).2) h2 rfl).trans h2, h3⟩)
      ?assign ?body ?done ?stop
    case assign =>
      rintro l pre ⟨⟨x1, cs1⟩, hK1, hP1⟩ W K ⟨⟨p1, p3⟩, pb, pS⟩ hK
      dsimp only at hK1 hP1 hK
      obtain ⟨A1, c1, e1, l1, g1⟩ := k25_open hK1
      have e2 : cs1 = #[.int .u8 x1.f0, .int .i64 x1.f1, .int .u64 x1.f2, .string x1.f3, .int .i64 x1.f4, .slice A1 x1.f5.length c1] := by rw [← Array.toList_inj]; exact e1
      clear e1 g1 l1
      subst e2
      rw [fill_one]
      have H3 := Aside0.mk p3
      have HS := Aside0.mk pS
      clear p3 pS
      gi_wp2
      exact hK _ _ ((KeepsOthers.alloc _ _).from _) ((KpB.refl _ _ _).alloc pb.size _) ⟨⟨p1.alloc _, H3.out⟩, below_alloc pb _, by have := HS.out; simp; omega⟩ ⟨W.heap.size, HS.out, Boxed6 W _ _, rfl⟩
    case body =>
      rintro l pre ⟨⟨x1, cs1⟩, hK1, hP1⟩ a' W hl ⟨r, hr⟩ ⟨⟨p1, p3⟩, pb, pS⟩ ⟨Bx, hBx, bX, rfl⟩ hlt
      dsimp only at hK1 hP1 bX ⊢
      obtain ⟨A1, c1, e1, l1, g1⟩ := k25_open hK1
      have e2 : cs1 = #[.int .u8 x1.f0, .int .i64 x1.f1, .int .u64 x1.f2, .string x1.f3, .int .i64 x1.f4, .slice A1 x1.f5.length c1] := by rw [← Array.toList_inj]; exact e1
      clear e1 g1 l1
      subst e2
      have y0 := (blk_cell bX 0).trans (show _ = some (Value.int .u8 x1.f0) from rfl)
      have d1 := p1.cell
      have f1 := p1.frozen
      have H1 := Aside0.mk p1
      have H3 := Aside0.mk p3
      have HB := Aside0.mk pb
      have HS := Aside0.mk pS
      clear p1 p3 pb bX hr pS
      by_cases hk : x1.f0 = 24
      · have hkb : (x1.f0 == 24) = true := by simp [hk]
        have hkn : (x1.f0 != 24) = false := by simp [hk]
        have HKN := Aside0.mk hkn
        clear hk hkn
        gi_wp2
        refine ⟨(KeepsOthers.setCell _ _ _).from _, ⟨⟨H1.out.set _, rfl⟩, by rw [List.map_append]; exact HL.snoc _ HKN.out⟩, below_set HB.out q29_⟩
      · have hkb : (x1.f0 == 24) = false := by simp [hk]
        have hkn : (x1.f0 != 24) = true := by simp [hk]
        have HKN := Aside0.mk hkn
        clear hk hkn
        gi_wp2
        refine ⟨KeepsFrom.refl _ _, KpB.refl _ _ _, ⟨H1.out, ?_⟩, HB.out, HS.out⟩
        rw [List.map_append]
        exact H3.out.snoc HKN.out
    case done =>
      rintro D ys W hD hys ⟨⟨p1, p3⟩, pb, pS⟩ hKD
      rw [hys] at p3
      have d1 := p1.cell
      have f1 := p1.frozen
      have H1 := Aside0.mk p1
      have H3 := Aside0.mk p3
      have HB := Aside0.mk pb
      have HKD := Aside0.mk hKD
      clear p1 p3 pb hKD hys
      gi_wp2
      have kD := defer_other (j := 0) (v := .bool true) HKD.out (show w.heap.size + 1 < D by omega)
      refine ⟨by simp, .inl ⟨_, _, rfl, run_takeDeferred kD, ?_⟩⟩
      refine ⟨_, results_boxed1 (p := 2) q28_ _ _ (w.heap.size + 1) _ _ _ rfl (boxed_put (H1.out.set (.bool true)) q29_ _) Tryd.underlying4 rfl, ?_⟩
      refine ⟨by rw [pureB, ← HCH.out, HC.out, List.all_eq_true.2 H3.out]; rfl, Below.trans (below_set HB.out q29_) (belowK_b (w := w) (Nat.le_refl _) _ D _ _ q29_ kD rfl rfl)⟩
    case stop =>
      rintro D c pre W hD hpre ⟨⟨⟨p1, rfl⟩, p3⟩, pb⟩ hKD
      have H1 := Aside0.mk p1
      have H3 := Aside0.mk p3
      have HB := Aside0.mk pb
      have HKD := Aside0.mk hKD
      clear p1 p3 pb hKD
      gi_wp2
      have hna : ((nd x).all fun y => y.f0 != 24) = false := by
        obtain ⟨y, hy, hf⟩ := H3.out
        obtain ⟨r, hr⟩ := hpre
        rw [List.all_eq_false]
        exact ⟨y, by rw [← hr]; exact List.mem_append_left _ hy, by rw [hf]; decide⟩
      have kD := HKD.out
      refine ⟨by simp, .inl ⟨_, _, rfl, run_takeDeferred kD, ?_⟩⟩
      refine ⟨_, results_boxed1 (p := 2) q28_ _ _ (w.heap.size + 1) _ _ _ rfl (boxed_put H1.out q29_ _) Tryd.underlying4 rfl, ?_⟩
      refine ⟨by rw [pureB, hna, Bool.and_false], Below.trans HB.out (belowK_b (w := w) (Nat.le_refl _) _ D _ _ q29_ kD rfl rfl)⟩
  · have hcb : (ch != 0) = true := by simp [hc]
    have hce : (ch == 0) = false := by simp [hc]
    have HC := Aside0.mk hce
    clear hc hce
    gi_wp2
    refine ⟨_, results_boxed1 (p := 2) q28_ _ _ (w.heap.size + 1) _ _ _ rfl (HR.out.set _) Tryd.underlying4 rfl, ?_⟩
    exact ⟨by rw [pureB, ← HCH.out, HC.out, Bool.false_and], below_set HB.out q29_⟩
end Go.Proofs.YtjopdafckhkmmaaDoor.MBS
