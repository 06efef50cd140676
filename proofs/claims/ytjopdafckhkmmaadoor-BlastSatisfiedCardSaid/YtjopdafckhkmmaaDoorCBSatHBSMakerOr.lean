/- The maker: or, xor, mux, out of and. -/
import Derived.Test.YtjopdafckhkmmaaDoorCBSatHBSMaker
import Derived.OpenShut
set_option linter.unusedVariables false
set_option linter.unusedSimpArgs false
namespace Go.Proofs.YtjopdafckhkmmaaDoor.MBS
open Go.Proofs.YtjopdafckhkmmaaDoor.Zed Go.RowKit Go.Proofs.YtjopdafckhkmmaaDoorW.PrintWords Go.Proofs.YtjopdafckhkmmaaDoorW.PrintLast Go.Proofs.YtjopdafckhkmmaaDoorW.PrintMore
attribute [local go_sem] Oper.semAt_some
/-- The other sign of a literal. -/
def neg (a : Int) : Int := Go.bits .xor .i64 a 1
theorem neg_wf {a : Int} : (Lit.int .i64 (neg a)).wf = true := by
  exact wf_bits _ _ _ _
theorem pAnd_len (n : Nat) (gs : List Gt) (a b : Int) : gs.length ≤ (pAnd n gs a b).1.length ∧ (pAnd n gs a b).1.length ≤ gs.length + 1 := by
  unfold pAnd pAnd2
  split
  · exact ⟨Nat.le_refl _, Nat.le_succ _⟩
  · split
    · exact ⟨Nat.le_refl _, Nat.le_succ _⟩
    · split
      · exact ⟨Nat.le_refl _, Nat.le_succ _⟩
      · split
        · exact ⟨Nat.le_refl _, Nat.le_succ _⟩
        · split
          · exact ⟨Nat.le_refl _, Nat.le_succ _⟩
          · simp
theorem nat_wf {x : Int} (h0 : 0 ≤ x) (h : x ≤ 9223372036854775807) : (Lit.int .i64 x).wf = true := by
  have e := w64_in x ⟨by omega, h⟩
  rw [← e]
  exact wrap64_wf _
theorem pAnd_wf {n : Nat} {gs : List Gt} {a b : Int} (ha : (Lit.int .i64 a).wf = true) (hb : (Lit.int .i64 b).wf = true) (hlen : n + gs.length ≤ 1000000) : (Lit.int .i64 (pAnd n gs a b).2).wf = true := by
  have hmax : (Lit.int .i64 (max a b)).wf = true := by
    rcases Int.le_total a b with h | h
    · rw [Int.max_eq_right h]; exact hb
    · rw [Int.max_eq_left h]; exact ha
  unfold pAnd pAnd2
  split
  · exact nat_wf q29_ q29_
  · split
    · exact nat_wf q29_ q29_
    · split
      · exact hmax
      · split
        · exact hmax
        · split
          · rename_i i hi
            have h1 := (List.findIdx?_eq_some_iff_getElem.1 hi).1
            exact nat_wf (by show 0 ≤ 2 * ((n + i + 1 : Nat) : Int); omega) (by show 2 * ((n + i + 1 : Nat) : Int) ≤ _; omega)
          · exact nat_wf (by show 0 ≤ 2 * ((n + gs.length + 1 : Nat) : Int); omega) (by show 2 * ((n + gs.length + 1 : Nat) : Int) ≤ _; omega)
def pOr (n : Nat) (gs : List Gt) (a b : Int) : List Gt × Int := ((pAnd n gs (neg a) (neg b)).1, neg (pAnd n gs (neg a) (neg b)).2)
set_option maxRecDepth 100000 in
set_option maxHeartbeats 600000 in
theorem or_calls (nIn : Nat) (W : World) (base g : Nat) (vI vO : Value) (bs ba : Nat) (gs : List Gt) (a b : Int) (hM : MK nIn W base g vI vO bs ba gs) (hbW : base ≤ W.heap.size) (hlen : nIn + gs.length ≤ 1000000) :
    Calls Tryd.prog 65 #[.pointer (some ⟨g, 0, none⟩), .int .i64 a, .int .i64 b] W fun e w' => e = .returned (.int .i64 (pOr nIn gs a b).2) ∧ MK nIn w' base g vI vO bs ba (pOr nIn gs a b).1 ∧ MKeep base bs W w' := by
  have hcon := and_calls nIn W base g vI vO bs ba gs (neg a) (neg b) hM hbW neg_wf neg_wf hlen
  have hp1 : (pOr nIn gs a b).1 = (pAnd nIn gs (neg a) (neg b)).1 := rfl
  have hp2 : (pOr nIn gs a b).2 = neg (pAnd nIn gs (neg a) (neg b)).2 := rfl
  rw [hp1, hp2]
  generalize (pAnd nIn gs (neg a) (neg b)).1 = g1 at hcon ⊢
  generalize (pAnd nIn gs (neg a) (neg b)).2 = r1 at hcon ⊢
  have HC := Aside0.mk hcon
  clear hcon hp1 hp2 hM
  unfold neg at HC ⊢
  go_enter Tryd.func65, Tryd.ntmps65
  go_wp2_with (go_at_call 66; refine HC.out.mono ?_; rintro e w' ⟨rfl, hm, hk⟩; have HM := Aside0.mk hm; have HK := Aside0.mk hk; clear hm hk)
  go_ret
  exact ⟨rfl, HM.out, HK.out⟩
theorem pOr_len (n : Nat) (gs : List Gt) (a b : Int) : gs.length ≤ (pOr n gs a b).1.length ∧ (pOr n gs a b).1.length ≤ gs.length + 1 := pAnd_len _ _ _ _
theorem pOr_wf {n : Nat} {gs : List Gt} {a b : Int} : (Lit.int .i64 (pOr n gs a b).2).wf = true := neg_wf
def pXor (n : Nat) (gs : List Gt) (a b : Int) : List Gt × Int := pAnd n (pOr n (pAnd n gs a b).1 a b).1 (neg (pAnd n gs a b).2) (pOr n (pAnd n gs a b).1 a b).2
def pMux (n : Nat) (gs : List Gt) (s a b : Int) : List Gt × Int := pOr n (pAnd n (pAnd n gs s a).1 (neg s) b).1 (pAnd n gs s a).2 (pAnd n (pAnd n gs s a).1 (neg s) b).2
set_option maxRecDepth 100000 in
set_option maxHeartbeats 600000 in
theorem xor_calls (nIn : Nat) (W : World) (base g : Nat) (vI vO : Value) (bs ba : Nat) (gs : List Gt) (a b : Int) (hM : MK nIn W base g vI vO bs ba gs) (hbW : base ≤ W.heap.size) (ha : (Lit.int .i64 a).wf = true) (hb : (Lit.int .i64 b).wf = true) (hlen : nIn + gs.length + 2 ≤ 1000000) :
    Calls Tryd.prog 64 #[.pointer (some ⟨g, 0, none⟩), .int .i64 a, .int .i64 b] W fun e w' => e = .returned (.int .i64 (pXor nIn gs a b).2) ∧ MK nIn w' base g vI vO bs ba (pXor nIn gs a b).1 ∧ MKeep base bs W w' := by
  have hl1 := pAnd_len nIn gs a b
  have hl2 := pOr_len nIn (pAnd nIn gs a b).1 a b
  have hc1 := and_calls nIn W base g vI vO bs ba gs a b hM hbW ha hb q29_
  have hc2 := fun W' hM' hbW' => or_calls nIn W' base g vI vO bs ba (pAnd nIn gs a b).1 a b hM' hbW' q29_
  have hc3 := fun W' hM' hbW' => and_calls nIn W' base g vI vO bs ba (pOr nIn (pAnd nIn gs a b).1 a b).1 (neg (pAnd nIn gs a b).2) (pOr nIn (pAnd nIn gs a b).1 a b).2 hM' hbW' neg_wf pOr_wf q29_
  have hp : pXor nIn gs a b = pAnd nIn (pOr nIn (pAnd nIn gs a b).1 a b).1 (neg (pAnd nIn gs a b).2) (pOr nIn (pAnd nIn gs a b).1 a b).2 := rfl
  rw [hp]
  clear hp hl1 hl2 ha hb
  generalize pAnd nIn (pOr nIn (pAnd nIn gs a b).1 a b).1 (neg (pAnd nIn gs a b).2) (pOr nIn (pAnd nIn gs a b).1 a b).2 = r3 at hc3 ⊢
  generalize pOr nIn (pAnd nIn gs a b).1 a b = r2 at hc2 hc3
  generalize pAnd nIn gs a b = r1 at hc1 hc2 hc3
  obtain ⟨g1, v1⟩ := r1
  obtain ⟨g2, v2⟩ := r2
  obtain ⟨g3, v3⟩ := r3
  dsimp only at hc1 hc2 hc3 ⊢
  have C1 := Aside0.mk hc1
  have C2 := Aside0.mk hc2
  have C3 := Aside0.mk hc3
  have HBW := Aside0.mk hbW
  clear hc1 hc2 hc3 hM hbW
  unfold neg at C3
  go_enter Tryd.func64, Tryd.ntmps64
  go_wp2_with (first | (go_at_call 66; with_reducible refine C1.out.mono ?_; rintro e w1 ⟨rfl, hm1, hk1⟩; have M1 := Aside0.mk hm1; have K1 := Aside0.mk hk1; have B1 := Aside0.mk (Nat.le_trans HBW.out hk1.below.size); clear hm1 hk1) | (go_at_call 65; with_reducible refine (C2.out _ M1.out B1.out).mono ?_; rintro e w2 ⟨rfl, hm2, hk2⟩; have M2 := Aside0.mk hm2; have K2 := Aside0.mk hk2; have B2 := Aside0.mk (Nat.le_trans B1.out hk2.below.size); clear hm2 hk2) | (go_at_call 66; with_reducible refine (C3.out _ M2.out B2.out).mono ?_; rintro e w3 ⟨rfl, hm3, hk3⟩; have M3 := Aside0.mk hm3; have K3 := Aside0.mk hk3; clear hm3 hk3))
  go_ret
  exact ⟨rfl, M3.out, (K1.out.trans K2.out).trans K3.out⟩
set_option maxRecDepth 100000 in
set_option maxHeartbeats 600000 in
theorem mux_calls (nIn : Nat) (W : World) (base g : Nat) (vI vO : Value) (bs ba : Nat) (gs : List Gt) (s a b : Int) (hM : MK nIn W base g vI vO bs ba gs) (hbW : base ≤ W.heap.size) (hs : (Lit.int .i64 s).wf = true) (ha : (Lit.int .i64 a).wf = true) (hb : (Lit.int .i64 b).wf = true) (hlen : nIn + gs.length + 2 ≤ 1000000) :
    Calls Tryd.prog 50 #[.pointer (some ⟨g, 0, none⟩), .int .i64 s, .int .i64 a, .int .i64 b] W fun e w' => e = .returned (.int .i64 (pMux nIn gs s a b).2) ∧ MK nIn w' base g vI vO bs ba (pMux nIn gs s a b).1 ∧ MKeep base bs W w' := by
  have hl1 := pAnd_len nIn gs s a
  have hl2 := pAnd_len nIn (pAnd nIn gs s a).1 (neg s) b
  have hc1 := and_calls nIn W base g vI vO bs ba gs s a hM hbW hs ha q29_
  have hc2 := fun W' hM' hbW' => and_calls nIn W' base g vI vO bs ba (pAnd nIn gs s a).1 (neg s) b hM' hbW' neg_wf hb q29_
  have hc3 := fun W' hM' hbW' => or_calls nIn W' base g vI vO bs ba (pAnd nIn (pAnd nIn gs s a).1 (neg s) b).1 (pAnd nIn gs s a).2 (pAnd nIn (pAnd nIn gs s a).1 (neg s) b).2 hM' hbW' q29_
  have hp : pMux nIn gs s a b = pOr nIn (pAnd nIn (pAnd nIn gs s a).1 (neg s) b).1 (pAnd nIn gs s a).2 (pAnd nIn (pAnd nIn gs s a).1 (neg s) b).2 := rfl
  rw [hp]
  clear hp hl1 hl2 hs ha hb
  generalize pOr nIn (pAnd nIn (pAnd nIn gs s a).1 (neg s) b).1 (pAnd nIn gs s a).2 (pAnd nIn (pAnd nIn gs s a).1 (neg s) b).2 = r3 at hc3 ⊢
  generalize pAnd nIn (pAnd nIn gs s a).1 (neg s) b = r2 at hc2 hc3
  generalize pAnd nIn gs s a = r1 at hc1 hc2 hc3
  obtain ⟨g1, v1⟩ := r1
  obtain ⟨g2, v2⟩ := r2
  obtain ⟨g3, v3⟩ := r3
  dsimp only at hc1 hc2 hc3 ⊢
  have C1 := Aside0.mk hc1
  have C2 := Aside0.mk hc2
  have C3 := Aside0.mk hc3
  have HBW := Aside0.mk hbW
  clear hc1 hc2 hc3 hM hbW
  unfold neg at C2
  go_enter Tryd.func50, Tryd.ntmps50
  go_wp2_with (first | (go_at_call 66; with_reducible refine C1.out.mono ?_; rintro e w1 ⟨rfl, hm1, hk1⟩; have M1 := Aside0.mk hm1; have K1 := Aside0.mk hk1; have B1 := Aside0.mk (Nat.le_trans HBW.out hk1.below.size); clear hm1 hk1) | (go_at_call 66; with_reducible refine (C2.out _ M1.out B1.out).mono ?_; rintro e w2 ⟨rfl, hm2, hk2⟩; have M2 := Aside0.mk hm2; have K2 := Aside0.mk hk2; have B2 := Aside0.mk (Nat.le_trans B1.out hk2.below.size); clear hm2 hk2) | (go_at_call 65; with_reducible refine (C3.out _ M2.out B2.out).mono ?_; rintro e w3 ⟨rfl, hm3, hk3⟩; have M3 := Aside0.mk hm3; have K3 := Aside0.mk hk3; clear hm3 hk3))
  go_ret
  exact ⟨rfl, M3.out, (K1.out.trans K2.out).trans K3.out⟩
end Go.Proofs.YtjopdafckhkmmaaDoor.MBS
