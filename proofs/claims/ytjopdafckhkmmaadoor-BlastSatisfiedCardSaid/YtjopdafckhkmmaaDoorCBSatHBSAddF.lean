/- The full adder: add's closure, by hand. -/
import Derived.Test.YtjopdafckhkmmaaDoorCBSatHBSEach
set_option linter.unusedVariables false
set_option linter.unusedSimpArgs false
namespace Go.Proofs.YtjopdafckhkmmaaDoor.MBS
open Go.Proofs.YtjopdafckhkmmaaDoor.Zed Go.RowKit Go.Proofs.YtjopdafckhkmmaaDoorW.PrintWords Go.Proofs.YtjopdafckhkmmaaDoorW.PrintLast Go.Proofs.YtjopdafckhkmmaaDoorW.PrintMore
attribute [local go_sem] Oper.semAt_some
theorem pXor_len (n : Nat) (gs : List Gt) (a b : Int) : gs.length ≤ (pXor n gs a b).1.length ∧ (pXor n gs a b).1.length ≤ gs.length + 3 := by
  have h1 := pAnd_len n gs a b
  have h2 := pOr_len n (pAnd n gs a b).1 a b
  have h3 := pAnd_len n (pOr n (pAnd n gs a b).1 a b).1 (neg (pAnd n gs a b).2) (pOr n (pAnd n gs a b).1 a b).2
  unfold pXor
  omega
theorem pXor_wf {n : Nat} {gs : List Gt} {a b : Int} (hlen : n + gs.length + 2 ≤ 1000000) : (Lit.int .i64 (pXor n gs a b).2).wf = true := by
  have h1 := pAnd_len n gs a b
  have h2 := pOr_len n (pAnd n gs a b).1 a b
  exact pAnd_wf neg_wf pOr_wf q29_
theorem MKeep.box {base bs : Nat} {W W' : World} {k : Nat} {t : TypeId} {v : Value} (h : MKeep base bs W W') (hb : Boxed W k t v) (hm : k ≠ bs) (ht : t ≠ 49 ∧ t ≠ 70) : Boxed W' k t v :=
  h.keep k _ hb hm (fun cs q fr e => by cases e; exact ht)
theorem MK.boxNe {nIn : Nat} {W : World} {base g : Nat} {vI vO : Value} {bs ba : Nat} {gs : List Gt} {k : Nat} {t : TypeId} {v : Value} (h : MK nIn W base g vI vO bs ba gs) (hb : Boxed W k t v) : k ≠ bs := fun e => by
  obtain ⟨D, ⟨es, c, h1, _⟩, _⟩ := h.map
  rw [← e, show W.heap[k]? = _ from hb] at h1
  cases h1
def full_T3 : Bool × List (List Nat × List Nat) := (true, [([], []), ([], []), ([], []), ([], []), ([1, 2, 3], [1, 2, 3]), ([], []), ([], []), ([], []), ([5, 6, 7, 4], [5, 6, 7]), ([0, 4, 8, 8], [0, 4, 8]), ([9, 9, 0, 1, 2, 3, 4, 5, 6, 7, 8, 9], [9])])
def full_B3 : List Nat := [0, 0, 0, 0, 14, 0, 0, 0, 254, 511, 1023]
theorem full_tab3 : rtab .any (opsOf Tryd.f63 3) = full_T3 := by kernel_rfl
theorem full_bits3 : waitsOk full_T3.2 full_B3 = true := by kernel_rfl
/-- A sum's bit and the carry. -/
def pFull (n : Nat) (s : List Gt × Int) (x y : Int) : (List Gt × Int) × Int :=
  (pOr n (pAnd n (pAnd n (pXor n (pXor n s.1 x y).1 (pXor n s.1 x y).2 s.2).1 x y).1 (pXor n s.1 x y).2 s.2).1 (pAnd n (pXor n (pXor n s.1 x y).1 (pXor n s.1 x y).2 s.2).1 x y).2 (pAnd n (pAnd n (pXor n (pXor n s.1 x y).1 (pXor n s.1 x y).2 s.2).1 x y).1 (pXor n s.1 x y).2 s.2).2,
    (pXor n (pXor n s.1 x y).1 (pXor n s.1 x y).2 s.2).2)
set_option maxRecDepth 100000 in
set_option maxHeartbeats 600000 in
theorem full_calls (nIn : Nat) (W : World) (base g : Nat) (vI vO : Value) (bs ba bm bc : Nat) (gs : List Gt) (x y c : Int) (hM : MK nIn W base g vI vO bs ba gs) (hbW : base ≤ W.heap.size) (hx : (Lit.int .i64 x).wf = true) (hy : (Lit.int .i64 y).wf = true) (hc : (Lit.int .i64 c).wf = true) (hlen : nIn + gs.length + 9 ≤ 1000000)
    (hbm : Boxed W bm 66 (.pointer (some ⟨g, 0, none⟩))) (hbc : Boxed W bc 3 (.int .i64 c)) :
    Calls Tryd.prog 63 #[.int .i64 x, .int .i64 y, .pointer (some ⟨bm, 0, none⟩), .pointer (some ⟨bc, 0, none⟩)] W fun e w' => e = .returned (.int .i64 (pFull nIn (gs, c) x y).2) ∧
      ∃ w5, MK nIn w5 base g vI vO bs ba (pFull nIn (gs, c) x y).1.1 ∧ MKeep base bs W w5 ∧ w' = w5.setCell ⟨bc, 0, none⟩ (.int .i64 (pFull nIn (gs, c) x y).1.2) := by
  have l1 := pXor_len nIn gs x y
  have l2 := pXor_len nIn (pXor nIn gs x y).1 (pXor nIn gs x y).2 c
  have l3 := pAnd_len nIn (pXor nIn (pXor nIn gs x y).1 (pXor nIn gs x y).2 c).1 x y
  have l4 := pAnd_len nIn (pAnd nIn (pXor nIn (pXor nIn gs x y).1 (pXor nIn gs x y).2 c).1 x y).1 (pXor nIn gs x y).2 c
  have hw := pXor_wf (n := nIn) (gs := gs) (a := x) (b := y) q29_
  have c1 := xor_calls nIn W base g vI vO bs ba gs x y hM hbW hx hy q29_
  have c2 := fun W' hM' hbW' => xor_calls nIn W' base g vI vO bs ba (pXor nIn gs x y).1 (pXor nIn gs x y).2 c hM' hbW' hw hc q29_
  have c3 := fun W' hM' hbW' => and_calls nIn W' base g vI vO bs ba (pXor nIn (pXor nIn gs x y).1 (pXor nIn gs x y).2 c).1 x y hM' hbW' hx hy q29_
  have c4 := fun W' hM' hbW' => and_calls nIn W' base g vI vO bs ba (pAnd nIn (pXor nIn (pXor nIn gs x y).1 (pXor nIn gs x y).2 c).1 x y).1 (pXor nIn gs x y).2 c hM' hbW' hw hc q29_
  have c5 := fun W' hM' hbW' => or_calls nIn W' base g vI vO bs ba (pAnd nIn (pAnd nIn (pXor nIn (pXor nIn gs x y).1 (pXor nIn gs x y).2 c).1 x y).1 (pXor nIn gs x y).2 c).1 (pAnd nIn (pXor nIn (pXor nIn gs x y).1 (pXor nIn gs x y).2 c).1 x y).2 (pAnd nIn (pAnd nIn (pXor nIn (pXor nIn gs x y).1 (pXor nIn gs x y).2 c).1 x y).1 (pXor nIn gs x y).2 c).2 hM' hbW' q29_
  simp only [pFull]
  clear l1 l2 l3 l4 hw hx hy hc hlen
  generalize pOr nIn (pAnd nIn (pAnd nIn (pXor nIn (pXor nIn gs x y).1 (pXor nIn gs x y).2 c).1 x y).1 (pXor nIn gs x y).2 c).1 (pAnd nIn (pXor nIn (pXor nIn gs x y).1 (pXor nIn gs x y).2 c).1 x y).2 (pAnd nIn (pAnd nIn (pXor nIn (pXor nIn gs x y).1 (pXor nIn gs x y).2 c).1 x y).1 (pXor nIn gs x y).2 c).2 = r5 at c5 ⊢
  generalize pAnd nIn (pAnd nIn (pXor nIn (pXor nIn gs x y).1 (pXor nIn gs x y).2 c).1 x y).1 (pXor nIn gs x y).2 c = r4 at c4 c5
  generalize pAnd nIn (pXor nIn (pXor nIn gs x y).1 (pXor nIn gs x y).2 c).1 x y = r3 at c3 c4 c5
  generalize pXor nIn (pXor nIn gs x y).1 (pXor nIn gs x y).2 c = r2 at c2 c3 ⊢
  generalize pXor nIn gs x y = r1 at c1 c2 c4
  obtain ⟨g1, v1⟩ := r1
  obtain ⟨g2, v2⟩ := r2
  obtain ⟨g3, v3⟩ := r3
  obtain ⟨g4, v4⟩ := r4
  obtain ⟨g5, v5⟩ := r5
  dsimp only at c1 c2 c3 c4 c5 ⊢
  have C1 := Aside0.mk c1
  have C2 := Aside0.mk c2
  have C3 := Aside0.mk c3
  have C4 := Aside0.mk c4
  have C5 := Aside0.mk c5
  have HBW := Aside0.mk hbW
  have n1 := Aside0.mk (hM.boxNe hbm)
  have n2 := Aside0.mk (hM.boxNe hbc)
  have dm := hbm.cell
  have dc := hbc.cell
  have BM := Aside0.mk hbm
  have BC := Aside0.mk hbc
  clear c1 c2 c3 c4 c5 hM hbW hbm hbc
  go_enter Tryd.func63, Tryd.ntmps63
  go_wp2_with (first | (go_at_call 64; with_reducible refine C1.out.mono ?_; rintro e w1 ⟨rfl, hm1, hk1⟩; have M1 := Aside0.mk hm1; have K1 := Aside0.mk hk1; have B1 := Aside0.mk (Nat.le_trans HBW.out hk1.below.size); have BM1 := Aside0.mk (hk1.box BM.out n1.out q33_); have BC1 := Aside0.mk (hk1.box BC.out n2.out q33_); clear hm1 hk1 dm dc; have dm := BM1.out.cell; have dc := BC1.out.cell) | (go_at_call 64; with_reducible refine (C2.out _ M1.out B1.out).mono ?_; rintro e w2 ⟨rfl, hm2, hk2⟩; have M2 := Aside0.mk hm2; have K2 := Aside0.mk hk2; have B2 := Aside0.mk (Nat.le_trans B1.out hk2.below.size); have BM2 := Aside0.mk (hk2.box BM1.out n1.out q33_); have BC2 := Aside0.mk (hk2.box BC1.out n2.out q33_); clear hm2 hk2 dm dc; have dm := BM2.out.cell; have dc := BC2.out.cell))
  have BMd := Aside0.mk (show Boxed w2.drew bm 66 (.pointer (some ⟨g, 0, none⟩)) from blk_drew BM2.out)
  have BCd := Aside0.mk (show Boxed w2.drew bc 3 (.int .i64 c) from blk_drew BC2.out)
  have Md := Aside0.mk (M2.out.below (below_drew (Below.refl _ _)))
  have Bd := Aside0.mk (show base ≤ w2.drew.heap.size from B2.out)
  have Kd2 := Aside0.mk (K2.out.trans (MKeep.of_below bs (below_drew (Below.refl _ _)) B2.out))
  clear dm dc
  refine start_ (n := 11) (S := fun w' => w'.cell? ⟨bm, 0, none⟩ = some (.pointer (some ⟨g, 0, none⟩)) ∧ w'.cell? ⟨bc, 0, none⟩ = some (.int .i64 c)) (ds := [10]) #[false, false, false, false, false, false, false, false, false, false, false] q28_ rfl rfl ⟨BMd.out.cell, BCd.out.cell⟩ (fun hHeld => ?_); refine with_tabW full_tab3 full_bits3 (fun HT_ HW_ => ?_)
  generalize w2.drew = wd at BMd BCd Md Bd Kd2 hHeld ⊢
  refine tz_ (i := 0) (N := some 17) (h := ?_)
  refine tz_ (i := 1) (N := some 18) (h := ?_)
  refine pz_ (i := 2) (N := some 19) (h := ?_)
  refine pz_ (i := 3) (N := some 20) (h := ?_)
  refine tz_ (i := 5) (N := some 22) (h := ?_)
  refine pz_ (i := 6) (N := some 23) (h := ?_)
  refine tz_ (i := 7) (N := some 24) (h := ?_)
  refine nz_ (i := 4) (N := some 21) (h := fun K hK => ?_)
  refine call_ (f := 66) #[.pointer (some ⟨g, 0, none⟩), .int .i64 x, .int .i64 y] (by rfl) rfl (by first | (go_simp; done) | (go_simp; rfl)) ?_
  refine (C3.out _ Md.out Bd.out).mono ?_
  rintro e w3 ⟨rfl, hm3, hk3⟩
  refine ⟨_, rfl, ?_⟩
  have M3 := Aside0.mk hm3
  have K3 := Aside0.mk hk3
  have B3 := Aside0.mk (Nat.le_trans Bd.out hk3.below.size)
  have BM3 := Aside0.mk (hk3.box BMd.out n1.out q33_)
  have BC3 := Aside0.mk (hk3.box BCd.out n2.out q33_)
  clear hm3 hk3
  refine hK.out _ _ ⟨BM3.out.cell, BC3.out.cell⟩ (fun hHeld => ?_)
  clear hK K
  refine mz_ (some 21) (h := ?_)
  refine nz_ (i := 8) (N := some 25) (h := fun K hK => ?_)
  refine call_ (f := 66) #[.pointer (some ⟨g, 0, none⟩), .int .i64 v1, .int .i64 c] (by rfl) rfl (by first | (go_simp; done) | (go_simp; rfl)) ?_
  refine (C4.out _ M3.out B3.out).mono ?_
  rintro e w4 ⟨rfl, hm4, hk4⟩
  refine ⟨_, rfl, ?_⟩
  have M4 := Aside0.mk hm4
  have K4 := Aside0.mk hk4
  have B4 := Aside0.mk (Nat.le_trans B3.out hk4.below.size)
  have BM4 := Aside0.mk (hk4.box BM3.out n1.out q33_)
  have BC4 := Aside0.mk (hk4.box BC3.out n2.out q33_)
  clear hm4 hk4
  refine hK.out _ _ ⟨BM4.out.cell, BC4.out.cell⟩ (fun hHeld => ?_)
  clear hK K
  refine mz_ (some 25) (h := ?_)
  refine nz_ (i := 9) (N := some 26) (h := fun K hK => ?_)
  refine call_ (f := 65) #[.pointer (some ⟨g, 0, none⟩), .int .i64 v3, .int .i64 v4] (by rfl) rfl (by first | (go_simp; done) | (go_simp; rfl)) ?_
  refine (C5.out _ M4.out B4.out).mono ?_
  rintro e w5 ⟨rfl, hm5, hk5⟩
  refine ⟨_, rfl, ?_⟩
  have M5 := Aside0.mk hm5
  have K5 := Aside0.mk hk5
  have B5 := Aside0.mk (Nat.le_trans B4.out hk5.below.size)
  have BM5 := Aside0.mk (hk5.box BM4.out n1.out q33_)
  have BC5 := Aside0.mk (hk5.box BC4.out n2.out q33_)
  clear hm5 hk5
  refine hK.out _ _ ⟨BM5.out.cell, BC5.out.cell⟩ (fun hHeld => ?_)
  clear hK K
  refine mz_ (some 26) (h := ?_)
  refine last_ (i := 10) (N := none) #[true, true, true, true, true, true, true, true, true, true, true] rfl rfl (one_of HT_.out q28_) q33_ (fun K hK => ?_)
  have hc9 := BC5.out.cell
  have hf9 := BC5.out.frozen
  refine skip_ (w1 := ?_) (by rfl) rfl ?_ ?_
  rotate_left
  · go_simp
    rfl
  refine hK.out _ _ ?_
  clear hK K
  refine done_ (done_of HT_.out q28_) ?_
  go_wp2
  go_ret
  exact ⟨rfl, _, M5.out, (((K1.out.trans Kd2.out).trans K3.out).trans K4.out).trans K5.out, rfl⟩
end Go.Proofs.YtjopdafckhkmmaaDoor.MBS
