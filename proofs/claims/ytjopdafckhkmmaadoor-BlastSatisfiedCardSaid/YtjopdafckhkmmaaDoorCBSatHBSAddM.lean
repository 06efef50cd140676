/- maker.add, by hand. -/
import Derived.Test.YtjopdafckhkmmaaDoorCBSatHBSMakerRow
import Derived.Deep.QuietTactic
import Derived.BigQuiet
set_option linter.unusedVariables false
set_option linter.unusedSimpArgs false
namespace Go.Proofs.YtjopdafckhkmmaaDoor.MBS
open Go.Proofs.YtjopdafckhkmmaaDoor.Zed Go.RowKit Go.Proofs.YtjopdafckhkmmaaDoorW.PrintWords Go.Proofs.YtjopdafckhkmmaaDoorW.PrintLast Go.Proofs.YtjopdafckhkmmaaDoorW.PrintMore
attribute [local go_sem] Oper.semAt_some
/-- A sum: gates, bits, carry. -/
def pAdd (n : Nat) (gs : List Gt) (a b : List Int) (c : Int) : List Gt × List Int × Int :=
  ((pEach (pFull n) (gs, c) a b).1.1, (pEach (pFull n) (gs, c) a b).2, (pEach (pFull n) (gs, c) a b).1.2)
theorem pFullEach_ok {n : Nat} : ∀ (la lb : List Int) (gs : List Gt) (c : Int), la.length = lb.length → (∀ x ∈ la, LitOk n gs x) → (∀ y ∈ lb, LitOk n gs y) → LitOk n gs c → n + gs.length + 9 * la.length ≤ 1000000 →
      gs <+: (pEach (pFull n) (gs, c) la lb).1.1 ∧ (pEach (pFull n) (gs, c) la lb).1.1.length ≤ gs.length + 9 * la.length ∧ (pEach (pFull n) (gs, c) la lb).2.length = la.length ∧ LitOk n (pEach (pFull n) (gs, c) la lb).1.1 (pEach (pFull n) (gs, c) la lb).1.2 ∧ ∀ z ∈ (pEach (pFull n) (gs, c) la lb).2, LitOk n (pEach (pFull n) (gs, c) la lb).1.1 z
  | [], lb, gs, c, _, _, _, hc, _ => ⟨List.prefix_refl _, by simp [pEach], rfl, hc, by simp [pEach]⟩
  | _ :: _, [], gs, c, h, _, _, _, _ => by simp at h
  | x :: la, y :: lb, gs, c, hl, ha, hb, hc, hs => by
    simp only [List.length_cons, Nat.mul_add, Nat.mul_one] at hs hl
    obtain ⟨h1, h2, h3, h4⟩ := pFull_ok n gs c x y (ha x (by simp)) (hb y (by simp)) hc q29_
    obtain ⟨k1, k2, k3, k4, k5⟩ := pFullEach_ok la lb (pFull n (gs, c) x y).1.1 (pFull n (gs, c) x y).1.2 q29_ (fun z hz => (ha z (by simp [hz])).mono h1) (fun z hz => (hb z (by simp [hz])).mono h1) h3 q29_
    refine ⟨h1.trans k1, ?_, ?_, k4, ?_⟩
    · simp only [pEach, List.length_cons, Nat.mul_add, Nat.mul_one]; exact Nat.le_trans k2 q29_
    · simp only [pEach, List.length_cons]; exact congrArg (· + 1) k3
    · intro z hz
      simp only [pEach, List.mem_cons] at hz ⊢
      rcases hz with rfl | hz
      · exact h4.mono k1
      · exact k5 z hz
theorem pAdd_ok {n : Nat} (la lb : List Int) (gs : List Gt) (c : Int) (hl : la.length = lb.length) (ha : ∀ x ∈ la, LitOk n gs x) (hb : ∀ y ∈ lb, LitOk n gs y) (hc : LitOk n gs c) (hs : n + gs.length + 9 * la.length ≤ 1000000) :
    gs <+: (pAdd n gs la lb c).1 ∧ (pAdd n gs la lb c).1.length ≤ gs.length + 9 * la.length ∧ (pAdd n gs la lb c).2.1.length = la.length ∧ LitOk n (pAdd n gs la lb c).1 (pAdd n gs la lb c).2.2 ∧ ∀ z ∈ (pAdd n gs la lb c).2.1, LitOk n (pAdd n gs la lb c).1 z :=
  pFullEach_ok la lb gs c hl ha hb hc hs
theorem box_new2 (W : World) (o : Obj) (t : TypeId) (v : Value) : Boxed ((W.alloc o).alloc (.cells #[v] t)) (W.heap.size + 1) t v := by
  have h := Boxed.new (W.alloc o) t v
  simpa using h
set_option maxRecDepth 100000 in
set_option maxHeartbeats 1000000 in
theorem add_calls (nIn : Nat) (W : World) (base g : Nat) (vI vO : Value) (bs ba : Nat) (gs : List Gt) (A B : Option Addr) (ca cb : Nat) (la lb : List Int) (c : Int) (hM : MK nIn W base g vI vO bs ba gs) (hbW : base ≤ W.heap.size)
    (hlen : la.length = lb.length) (hbound : la.length ≤ 1000000) (hra : RI W (.slice A la.length ca) la) (hrb : RI W (.slice B lb.length cb) lb) (oka : ∀ x ∈ la, LitOk nIn gs x) (okb : ∀ x ∈ lb, LitOk nIn gs x) (okc : LitOk nIn gs c) (hsz : nIn + gs.length + 9 * la.length ≤ 1000000) :
    Calls Tryd.prog 46 #[.pointer (some ⟨g, 0, none⟩), .slice A la.length ca, .slice B lb.length cb, .int .i64 c] W fun e w' => ∃ v, e = .returned (.tuple #[v, .int .i64 (pAdd nIn gs la lb c).2.2]) ∧ MK nIn w' base g vI vO bs ba (pAdd nIn gs la lb c).1 ∧ MKeep base bs W w' ∧ RI w' v (pAdd nIn gs la lb c).2.1 := by
  obtain ⟨Wb, hWb⟩ : ∃ Wb, Wb = (W.alloc (.cells #[.pointer (some ⟨g, 0, none⟩)] 66)).alloc (.cells #[.int .i64 c] 3) := ⟨_, rfl⟩
  have hbel : Below W.heap.size W Wb := by rw [hWb]; exact below_alloc (below_alloc (Below.refl _ _) _) _
  have hz : Wb.heap.size = W.heap.size + 2 := by rw [hWb]; simp
  have bm : Boxed Wb W.heap.size 66 (.pointer (some ⟨g, 0, none⟩)) := by rw [hWb]; exact (Boxed.new W _ _).alloc _
  have bc : Boxed Wb (W.heap.size + 1) 3 (.int .i64 c) := by rw [hWb]; exact box_new2 _ _ _ _
  have kb : MKeep base bs W Wb := MKeep.of_below bs hbel hbW
  have Mb := hM.below hbel
  have hcon : Calls Tryd.prog 48 #[.slice A la.length ca, .slice B lb.length cb, .func (.func 63) #[] #[.pointer (some ⟨W.heap.size, 0, none⟩), .pointer (some ⟨W.heap.size + 1, 0, none⟩)]] Wb fun e w' => ∃ v, e = .returned v ∧ MK nIn w' base g vI vO bs ba (pAdd nIn gs la lb c).1 ∧ MKeep base bs W w' ∧ Boxed w' (W.heap.size + 1) 3 (.int .i64 (pAdd nIn gs la lb c).2.2) ∧ RI w' v (pAdd nIn gs la lb c).2.1 := by
    refine (each_calls (fun (s : List Gt × Int) W' => MK nIn W' base g vI vO bs ba s.1 ∧ MKeep base bs W W' ∧ base ≤ W'.heap.size ∧ Boxed W' W.heap.size 66 (.pointer (some ⟨g, 0, none⟩)) ∧ Boxed W' (W.heap.size + 1) 3 (.int .i64 s.2)) (pFull nIn) 63 #[] #[.pointer (some ⟨W.heap.size, 0, none⟩), .pointer (some ⟨W.heap.size + 1, 0, none⟩)] (enters_of Tryd.func63 q28_ rfl) (W.heap.size + 2) Wb hz.symm A B ca cb la lb hlen hbound (gs, c) ?_ ?_ ?_ ⟨Mb, kb, by omega, bm, bc⟩).mono ?_
    · rintro s W' ⟨h1, h2, _⟩
      have k := KI.of_keep h2 hM.noCells
      obtain ⟨A', c', e1, _, _, r1⟩ := (hra.keep k).read
      obtain ⟨B', d', e2, _, _, r2⟩ := (hrb.keep k).read
      cases e1
      cases e2
      exact ⟨r1, r2⟩
    · rintro s W1 W2 row ⟨h1, h2, h3, h4, h5⟩ hg hr
      exact ⟨h1.grownI hg (fun k e => (hr k e).2), h2.grownNew rfl hbW hg (fun k e => by have := (hr k e).1; omega), Nat.le_trans h3 hg.size, blk_grown h4 hg (fun e => by have := (hr _ e.symm).1; omega), blk_grown h5 hg (fun e => by have := (hr _ e.symm).1; omega)⟩
    · rintro i hi s W' hs ⟨h1, h2, h3, h4, h5⟩ hn
      have hib : i < lb.length := by omega
      have e1 : (la.take i).length = i := by rw [List.length_take]; omega
      obtain ⟨k1, k2, k3, k4, k5⟩ := pFullEach_ok (la.take i) (lb.take i) gs c (by rw [List.length_take, List.length_take]; omega) (fun x hx => oka x (List.mem_of_mem_take hx)) (fun x hx => okb x (List.mem_of_mem_take hx)) okc (by rw [e1]; have := Nat.mul_le_mul_left 9 (Nat.le_of_lt hi); omega)
      rw [← hs, e1] at k2
      rw [← hs] at k1 k4
      have hl := oka _ (rd_mem hi)
      have hl' := okb _ (rd_mem hib)
      obtain ⟨gs', c'⟩ := s
      dsimp only at h1 h5 k1 k2 k4 ⊢
      have hq : nIn + gs'.length + 9 ≤ 1000000 := by
        have := Nat.mul_le_mul_left 9 hi
        rw [Nat.succ_eq_add_one, Nat.mul_add] at this
        omega
      refine (full_calls nIn W' base g vI vO bs ba W.heap.size (W.heap.size + 1) gs' (rd la i) (rd lb i) c' h1 h3 ((hl.mono k1).wf q29_) ((hl'.mono k1).wf q29_) (k4.wf q29_) hq h4 h5).mono ?_
      rintro e W2 ⟨rfl, w5, m1, m2, rfl⟩
      have hb5 := m2.box h5 (h1.boxNe h5) q33_
      have hb4 := m2.box h4 (h1.boxNe h4) q33_
      have hgr := grownBy_setCellAt w5 (W.heap.size + 1) 0 (.int .i64 (pFull nIn (gs', c') (rd la i) (rd lb i)).1.2)
      refine ⟨rfl, ⟨m1.grownI hgr (fun k e => by cases e; exact ⟨_, hb5⟩), (h2.trans m2).grownNew rfl hbW hgr (fun k e => by cases e; omega), Nat.le_trans h3 (Nat.le_trans m2.below.size hgr.size), blk_grown hb4 hgr (fun e => by injection e; omega), hb5.set _⟩, ⟨Nat.le_trans m2.below.size hgr.size, fun k cs hk ho => ?_⟩⟩
      have hne : k ≠ bs := fun e => by subst e; have := h1.noCells _ ho; cases this
      exact blk_grown (m2.keep k _ ho hne (fun cs' q fr e => by cases e; decide)) hgr (fun e => by cases e; omega)
    · rintro e w' ⟨v, rfl, ⟨h1, h2, h3, h4, h5⟩, hR, _⟩
      exact ⟨v, rfl, h1, h2, h5, RI.of_R hR (by have := pEach_len (pFull nIn) (gs, c) la lb; exact Nat.le_trans this hbound)⟩
  generalize pAdd nIn gs la lb c = r at hcon ⊢
  obtain ⟨g1, o1, c1⟩ := r
  dsimp only at hcon ⊢
  have HC := Aside0.mk hcon
  have HBW := Aside0.mk hbW
  rw [hWb] at HC
  clear hcon hWb hbel hz bm bc kb Mb hM hra hrb oka okb okc hsz hbound hlen
  go_enter Tryd.func46, Tryd.ntmps46
  go_wp2_with (go_at_call 48; with_reducible refine HC.out.mono ?_; rintro e w1 ⟨v, rfl, hm1, hk1, hb1, hr1⟩; have M1 := Aside0.mk hm1; have K1 := Aside0.mk hk1; have BC1 := Aside0.mk hb1; have R1 := Aside0.mk hr1; clear hm1 hk1 hr1; have dc := hb1.cell; clear hb1)
  go_quiet (fail)
  go_wp2
  refine bodyPost_ret (results_tmp2 (t := 8) (u := 9) q28_ _ _ _) rfl ?_
  exact ⟨v, rfl, M1.out.below (pw_below_drewN (Below.refl _ _) _), K1.out.trans (MKeep.of_below bs (pw_below_drewN (Below.refl _ _) _) (Nat.le_trans HBW.out K1.out.below.size)), R1.out.keep (KI.of_below (pw_below_drewN (Below.refl _ _) _))⟩
end Go.Proofs.YtjopdafckhkmmaaDoor.MBS
