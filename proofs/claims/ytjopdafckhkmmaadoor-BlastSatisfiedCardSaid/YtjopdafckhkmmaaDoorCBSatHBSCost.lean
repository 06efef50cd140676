/- blast.cost, by hand. -/
import Derived.Test.YtjopdafckhkmmaaDoorCBSatHBSTermM
set_option linter.unusedVariables false
set_option linter.unusedSimpArgs false
namespace Go.Proofs.YtjopdafckhkmmaaDoor.MBS
open Go.Proofs.YtjopdafckhkmmaaDoor.Zed Go.RowKit Go.Proofs.YtjopdafckhkmmaaDoorW.PrintWords Go.Proofs.YtjopdafckhkmmaaDoorW.PrintLast Go.Proofs.YtjopdafckhkmmaaDoorW.PrintMore
attribute [local go_sem] Oper.semAt_some
/-- The width that a node's cost goes by. -/
def costW (x : Tm) : Int := match x.f5 with
  | [] => x.f1
  | a :: _ => a.f1
/-- A node's cost. -/
def costF (x : Tm) : Int :=
  if x.f0 = 4 ∨ x.f0 = 5 ∨ x.f0 = 6 ∨ x.f0 = 16 ∨ x.f0 = 17 ∨ x.f0 = 18 then 20 * costW x
  else if x.f0 = 7 then 20 * costW x * costW x
  else if x.f0 = 14 ∨ x.f0 = 15 then 40 * costW x * costW x
  else if x.f0 = 8 ∨ x.f0 = 9 then costW x
  else if x.f0 = 10 then 4 * costW x
  else if x.f0 = 11 ∨ x.f0 = 12 ∨ x.f0 = 13 then 40 * costW x
  else if x.f0 = 19 then 4 * x.f1 else 0
theorem wr_sq (w : Int) (k : Int) (h0 : 0 ≤ w) (h1 : w ≤ 64) (hk : 0 ≤ k ∧ k ≤ 40) : wrap64 (k * w * w) = k * w * w ∧ wrap64 (k * w) = k * w := by
  have a : 0 ≤ k * w := Int.mul_nonneg hk.1 h0
  have b : k * w ≤ 40 * 64 := Int.mul_le_mul hk.2 h1 h0 q29_
  have c : 0 ≤ k * w * w := Int.mul_nonneg a h0
  have d : k * w * w ≤ 40 * 64 * 64 := Int.mul_le_mul b h1 h0 q29_
  exact ⟨w64_in _ q29_, w64_in _ q29_⟩
/-- What cost's walk asks of a node. -/
def CN (x : Tm) : Prop := 0 ≤ x.f1 ∧ x.f1 ≤ 64 ∧ 0 ≤ costW x ∧ costW x ≤ 64 ∧ (x.f5 = [] → x.f0 = 1 ∨ x.f0 = 2) ∧ 0 ≤ x.f0 ∧ x.f0 ≤ 23
set_option maxRecDepth 100000 in
set_option maxHeartbeats 4000000 in
theorem cost_calls (x : Tm) (cs : List Value) (w : World) (hK : kT.K w x cs) (hx : CN x) :
    Calls Tryd.prog 43 #[.agg cs.toArray] w fun e w' => e = .returned (.int .i64 (costF x)) ∧ Below w.heap.size w w' := by
  obtain ⟨A5, c5, rfl, l5, g5⟩ := k25_open hK
  have hu25 := Tryd.underlying25
  obtain ⟨h0, h1, h2, h3, h4, h6, h7⟩ := hx
  obtain ⟨c, hc⟩ : ∃ c, c = costF x := ⟨_, rfl⟩
  rw [← hc]
  have HB := Aside0.mk (below_alloc (Below.refl w.heap.size w) (.cells #[.int .u8 x.f0, .int .i64 x.f1, .int .u64 x.f2, .string x.f3, .int .i64 x.f4, .slice A5 x.f5.length c5] 25))
  clear hK
  cases h5 : x.f5 with
  | nil =>
    have hlz : ((0 : Int) < 0) = False := by simp
    have hc0 : c = 0 := by
      rw [hc]
      rcases h4 h5 with h | h <;> simp [costF, h]
    rw [h5] at HB
    have H4 := h4 h5
    clear h4 hc g5 l5 h2 h3 h5 h6 h7
    rcases H4 with h | h
    all_goals
      rw [h] at HB
      go_enter Tryd.func43, Tryd.ntmps43
      go_wp2
      go_ret
      exact ⟨by rw [hc0]; rfl, HB.out⟩
  | cons a r =>
    obtain ⟨ad, A', c', rfl, p0, p1, p2, p3, p4, p5, l', g'⟩ := at_T25 g5 0 q29_ (by rw [h5]; simp <;> omega)
    have hrd : rd_T25 x.f5 0 = a := by rw [h5]; rfl
    rw [hrd] at p1
    clear p0 p2 p3 p4 p5 l' g' hrd g5 l5 h4
    have hcw : costW x = a.f1 := by rw [costW, h5]
    rw [hcw] at h2 h3
    obtain ⟨s1, s2⟩ := wr_sq a.f1 20 h2 h3 q29_
    obtain ⟨t1, t2⟩ := wr_sq a.f1 40 h2 h3 q29_
    have p1 : w.cell? ⟨ad.block, ad.off + 1, none⟩ = some (.int .i64 a.f1) := by simpa [Addr.add] using p1
    have hab : (⟨ad.block, ad.off + 1, none⟩ : Addr).block < w.heap.size := World.block_lt_of_cell? w _ p1
    dsimp only at hab
    have hk : x.f0 = 0 ∨ x.f0 = 1 ∨ x.f0 = 2 ∨ x.f0 = 3 ∨ x.f0 = 4 ∨ x.f0 = 5 ∨ x.f0 = 6 ∨ x.f0 = 7 ∨ x.f0 = 8 ∨ x.f0 = 9 ∨ x.f0 = 10 ∨ x.f0 = 11 ∨ x.f0 = 12 ∨ x.f0 = 13 ∨ x.f0 = 14 ∨ x.f0 = 15 ∨ x.f0 = 16 ∨ x.f0 = 17 ∨ x.f0 = 18 ∨ x.f0 = 19 ∨ x.f0 = 20 ∨ x.f0 = 21 ∨ x.f0 = 22 ∨ x.f0 = 23 := by omega
    have hce : c = if x.f0 = 4 ∨ x.f0 = 5 ∨ x.f0 = 6 ∨ x.f0 = 16 ∨ x.f0 = 17 ∨ x.f0 = 18 then 20 * a.f1
      else if x.f0 = 7 then 20 * a.f1 * a.f1
      else if x.f0 = 14 ∨ x.f0 = 15 then 40 * a.f1 * a.f1
      else if x.f0 = 8 ∨ x.f0 = 9 then a.f1
      else if x.f0 = 10 then 4 * a.f1
      else if x.f0 = 11 ∨ x.f0 = 12 ∨ x.f0 = 13 then 40 * a.f1
      else if x.f0 = 19 then 4 * x.f1 else 0 := by rw [hc, costF, hcw]
    rw [h5] at HB
    obtain ⟨m, hm⟩ : ∃ m, m = (a :: r).length := ⟨_, rfl⟩
    have hm0 : (0 : Int) < (m : Int) := by rw [hm]; simp <;> omega
    rw [← hm] at HB ⊢
    clear hc hcw h6 h7 h5 hm
    rcases hk with h | h | h | h | h | h | h | h | h | h | h | h | h | h | h | h | h | h | h | h | h | h | h | h
    all_goals
      rw [h] at HB
      have HCE := Aside0.mk (hce.trans (by rw [h]))
      clear hce
      go_enter Tryd.func43, Tryd.ntmps43
      go_wp2
      go_ret
      exact ⟨by rw [HCE.out]; rfl, HB.out⟩
end Go.Proofs.YtjopdafckhkmmaaDoor.MBS
