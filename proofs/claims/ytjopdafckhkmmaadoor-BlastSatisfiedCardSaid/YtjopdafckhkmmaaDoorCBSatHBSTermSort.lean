/- slices.SortFunc at bindings, by their names: the library's contract, laid here. -/
import Derived.Test.YtjopdafckhkmmaaDoorCBSatHBSTermSortA
import Derived.Test.YtjopdafckhkmmaaDoorCBSatHBSTermLay
import Derived.Shelf.SlSortCmp.WholeK
import Derived.Shelf.Small.Strs
import Derived.Ground.SlsfProg
import Derived.Ground.NamesProg
set_option linter.unusedVariables false
set_option linter.unusedSimpArgs false
namespace Go.Proofs.YtjopdafckhkmmaaDoor.MBS
open Go.Proofs.YtjopdafckhkmmaaDoor.Zed Go.RowKit Go.Proofs.YtjopdafckhkmmaaDoorW.PrintWords Go.Proofs.YtjopdafckhkmmaaDoorW.PrintLast Go.Proofs.YtjopdafckhkmmaaDoorW.PrintMore
attribute [local go_sem] Oper.semAt_some
theorem cb_self : ∀ a : List UInt8, Lib.compareBytes a a = 0
  | [] => rfl
  | x :: r => by rw [Lib.compareBytes, if_neg (by simp), if_neg (by simp)]; exact cb_self r
theorem cb_trans : ∀ a b c : List UInt8, Lib.compareBytes a b < 0 → Lib.compareBytes b c < 0 → Lib.compareBytes a c < 0
  | _, _, [], _, h => by
    rename_i b _
    cases b <;> simp [Lib.compareBytes] at h
  | _, [], _ :: _, h, _ => by
    rename_i a _ _ _
    cases a <;> simp [Lib.compareBytes] at h
  | [], _ :: _, _ :: _, _, _ => by simp [Lib.compareBytes]
  | x :: a, y :: b, z :: c, h1, h2 => by
    unfold Lib.compareBytes at h1 h2 ⊢
    have e1 := @UInt8.lt_iff_toNat_lt x y
    have e2 := @UInt8.lt_iff_toNat_lt y x
    have e3 := @UInt8.lt_iff_toNat_lt y z
    have e4 := @UInt8.lt_iff_toNat_lt z y
    have e5 := @UInt8.lt_iff_toNat_lt x z
    have e6 := @UInt8.lt_iff_toNat_lt z x
    by_cases c1 : x < y <;> by_cases c2 : y < x <;> by_cases c3 : y < z <;> by_cases c4 : z < y <;> simp only [c1, c2, c3, c4, if_true, if_false] at h1 h2 <;> first
      | omega
      | (rw [if_pos (e5.2 (by simp_all; omega))]; decide)
      | (rw [if_neg (fun h => by have := e5.1 h; simp_all; omega), if_neg (fun h => by have := e6.1 h; simp_all; omega)]; exact cb_trans a b c h1 h2)
theorem cb_ntrans : ∀ a b c : List UInt8, ¬ Lib.compareBytes a b < 0 → ¬ Lib.compareBytes b c < 0 → ¬ Lib.compareBytes a c < 0
  | [], _, [], _, _ => by simp [Lib.compareBytes]
  | _ :: _, _, [], _, _ => by simp [Lib.compareBytes]
  | a, [], _ :: _, _, h => by simp [Lib.compareBytes] at h
  | [], _ :: _, _ :: _, h, _ => by simp [Lib.compareBytes] at h
  | x :: a, y :: b, z :: c, h1, h2 => by
    unfold Lib.compareBytes at h1 h2 ⊢
    have e1 := @UInt8.lt_iff_toNat_lt x y
    have e2 := @UInt8.lt_iff_toNat_lt y x
    have e3 := @UInt8.lt_iff_toNat_lt y z
    have e4 := @UInt8.lt_iff_toNat_lt z y
    have e5 := @UInt8.lt_iff_toNat_lt x z
    have e6 := @UInt8.lt_iff_toNat_lt z x
    by_cases c1 : x < y <;> by_cases c2 : y < x <;> by_cases c3 : y < z <;> by_cases c4 : z < y <;> simp only [c1, c2, c3, c4, if_true, if_false] at h1 h2 <;> first
      | omega
      | (rw [if_neg (fun h => by have := e5.1 h; simp_all; omega), if_pos (e6.2 (by simp_all; omega))]; decide)
      | (rw [if_neg (fun h => by have := e5.1 h; simp_all; omega), if_neg (fun h => by have := e6.1 h; simp_all; omega)]; exact cb_ntrans a b c h1 h2)
theorem cmp_calls (a b : ByteArray) (W : World) : Calls Tryd.prog 32 #[.string a, .string b] W fun e w' => e = .returned (.int .i64 (Lib.compareBytes a.data.toList b.data.toList)) ∧ w' = W := Any.strings_Compare layC a b W
def cfB (x y : Bg) : Int := Lib.compareBytes x.f0.data.toList y.f0.data.toList
theorem swoB : Sort.SWO (ltOf cfB) where
  irrefl x := by simp [ltOf, cfB, cb_self]
  trans x y z h1 h2 := by
    exact decide_eq_true (cb_trans _ _ _ (of_decide_eq_true h1) (of_decide_eq_true h2))
  ntrans x y z h1 h2 := by
    exact decide_eq_false (cb_ntrans _ _ _ (of_decide_eq_false h1) (of_decide_eq_false h2))
set_option maxHeartbeats 1000000 in
theorem cmpB_calls (x y : Bg) (W : World) : Calls Tryd.prog 31 #[.agg (encB x).toArray, .agg (encB y).toArray] W fun e w' => e = .returned (.int .i64 (cfB x y)) ∧ ∃ q os', w' = Sort.grow (W.drewN q) os' := by
  have hcon := fun W' => cmp_calls x.f0 y.f0 W'
  have hc : cfB x y = Lib.compareBytes x.f0.data.toList y.f0.data.toList := rfl
  rw [hc]
  generalize Lib.compareBytes x.f0.data.toList y.f0.data.toList = r at hcon ⊢
  clear hc
  simp only [encB, List.toArray]
  go_enter Tryd.func31, Tryd.ntmps31
  go_wp2_with (go_at_call 32; refine (hcon _).mono ?_; rintro e w' ⟨rfl, rfl⟩)
  go_ret
  exact ⟨rfl, 0, _, by rw [Sort.alloc_eq_grow, Sort.alloc_eq_grow, Sort.grow_grow]; rfl⟩
theorem pairwise_of {α : Type} [Inhabited α] {R : α → α → Prop} (d : Array α) (h : ∀ i j, i < j → j < d.size → R d[i]! d[j]!) : d.toList.Pairwise R := by
  rw [List.pairwise_iff_getElem]
  intro i j hi hj hij
  have hi' : i < d.size := by simpa using hi
  have hj' : j < d.size := by simpa using hj
  have := h i j hij hj'
  rw [getElem!_pos d i hi', getElem!_pos d j hj'] at this
  simpa using this
theorem sort_some (W : World) (base g n c : Nat) (xs : List Bg) (h : Kd.R k40 40 W base (fun _ => True) (.slice (some ⟨g, 0, none⟩) n c) xs) (hn : xs.length ≤ 1000000) :
    Calls Tryd.prog 30 #[.slice (some ⟨g, 0, none⟩) n c, .func (.func 31) #[] #[]] W fun e w' => e = .returned (.tuple #[]) ∧ ∃ ys : List Bg, ys.Perm xs ∧ ys.Pairwise (fun a b => ¬ cfB b a < 0) ∧
      Kd.R k40 40 w' base (fun _ => True) (.slice (some ⟨g, 0, none⟩) n c) ys ∧ W.grownBy w' (some g) := by
  obtain ⟨rfl, hnc, hcm, hb, _, cur, hg, hs, ht⟩ := RB_open h
  have hH := holds_of rfl hnc hg hs ht
  have eg : ∀ args w, (callFunc 31 args).run Tryd.prog w = .ok (.enter 31 args) w := enters_of Tryd.func31 q28_ rfl
  have hcon := AnyQ.slices_SortFunc layB 3 Tryd.isAgg40 Tryd.sizeOf40 encB (fun _ => rfl) (fun x v hv => by simp [encB] at hv; rcases hv with rfl | rfl | rfl <;> rfl) cfB swoB 31 #[] g 0 c xs.toArray W eg (fun _ _ _ _ x y => cmpB_calls x y _) hH (Array.getElem?_eq_some_iff.1 hg).1 (by simp; omega)
  refine hcon.mono ?_
  rintro e w' ⟨rfl, d', m, os, hp, hso, rfl⟩
  have hd : d'.size = xs.length := by rw [hp.1]; simp
  obtain ⟨hgr, cur', hg', hs', ht'⟩ := sorted_world (m := m) (os := os) hnc hd hg hs
  refine ⟨rfl, d'.toList, ?_, ?_, RB_close (by simpa using hd) hnc hcm hb trivial hg' hs' ht', hgr⟩
  · have h1 := hp.2.2
    have e1 : d'.extract 0 xs.toArray.size = d' := by rw [show xs.toArray.size = d'.size by rw [hd]; simp]; simp
    have e2 : xs.toArray.extract 0 xs.toArray.size = xs.toArray := by simp
    rw [e1, e2] at h1
    exact h1
  · refine pairwise_of d' (fun i j hij hj => ?_)
    exact of_decide_eq_false (hso i j (Nat.zero_le _) hij (by simpa [hd] using hj))
#print axioms sort_some
end Go.Proofs.YtjopdafckhkmmaaDoor.MBS
