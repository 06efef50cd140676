/- maker.binary at and, by hand. -/
import Derived.Test.YtjopdafckhkmmaaDoorCBSatHBSClone
set_option linter.unusedVariables false
set_option linter.unusedSimpArgs false
namespace Go.Proofs.YtjopdafckhkmmaaDoor.MBS
open Go.Proofs.YtjopdafckhkmmaaDoor.Zed Go.RowKit Go.Proofs.YtjopdafckhkmmaaDoorW.PrintWords Go.Proofs.YtjopdafckhkmmaaDoorW.PrintLast Go.Proofs.YtjopdafckhkmmaaDoorW.PrintMore
attribute [local go_sem] Oper.semAt_some
theorem OpOk.from_ {n q : Nat} {pf : List Gt → Int → Int → List Gt × Int} (h : OpOk n q pf) (gs0 : List Gt) : ∀ gs x y, gs0 <+: gs → LitOk n gs x → LitOk n gs y → n + gs.length + q ≤ 1000000 → gs <+: (pf gs x y).1 ∧ (pf gs x y).1.length ≤ gs.length + q ∧ LitOk n (pf gs x y).1 (pf gs x y).2 := fun gs x y _ => h gs x y
set_option maxRecDepth 100000 in
set_option maxHeartbeats 1000000 in
theorem binAnd_calls (nIn : Nat) (W : World) (base g : Nat) (vI vO : Value) (bs ba : Nat) (gs : List Gt) (va vb : Value) (la lb : List Int) (hM : MK nIn W base g vI vO bs ba gs) (hbW : base ≤ W.heap.size)
    (hlen : la.length = lb.length) (hra : RI W va la) (hrb : RI W vb lb) (oka : ∀ x ∈ la, LitOk nIn gs x) (okb : ∀ x ∈ lb, LitOk nIn gs x) (hsz : nIn + gs.length + 1 * la.length ≤ 1000000) :
    Calls Tryd.prog 51 #[.pointer (some ⟨g, 0, none⟩), .int .u8 8, va, vb] W fun e w' => ∃ v, e = .returned v ∧ MK nIn w' base g vI vO bs ba (pEach (pAnd nIn) gs la lb).1 ∧ MKeep base bs W w' ∧ RI w' v (pEach (pAnd nIn) gs la lb).2 := by
  obtain ⟨A, ca, rfl, _, _, _⟩ := hra.read
  obtain ⟨B, cb, rfl, _, _, _⟩ := hrb.read
  have hcon := eachM_calls nIn base g bs ba 1 vI vO (pAnd nIn) gs ((pAnd_ok nIn).from_ gs) 66 #[.pointer (some ⟨g, 0, none⟩)] #[] (fun w args => enters_of Tryd.func66 q28_ rfl args w) W A B ca cb la lb hlen hra.1 hM hbW hra hrb oka okb hsz (fun gs' x y W' m1 b1 k1 p1 x1 y1 s1 => and_calls nIn W' base g vI vO bs ba gs' x y m1 b1 (x1.wf q29_) (y1.wf q29_) q29_)
  generalize pEach (pAnd nIn) gs la lb = r at hcon ⊢
  obtain ⟨g1, o1⟩ := r
  dsimp only at hcon ⊢
  have HC := Aside0.mk hcon
  clear hcon hM hra hrb oka okb hsz hlen
  go_enter Tryd.func51, Tryd.ntmps51
  go_wp2_with (go_at_call 48; with_reducible refine HC.out.mono ?_; rintro e w1 ⟨v, rfl, hm1, hk1, hr1⟩; have M1 := Aside0.mk hm1; have K1 := Aside0.mk hk1; have R1 := Aside0.mk hr1; clear hm1 hk1 hr1)
  go_ret
  exact ⟨v, rfl, M1.out, K1.out, R1.out⟩
end Go.Proofs.YtjopdafckhkmmaaDoor.MBS
