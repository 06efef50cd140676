/- BlastRuns over lists and numbers, first part: both texts' CheckBound come to one number; the search by halves and the search in a row meet the same place. No condition. -/
import Derived.Test.YtjapfakpfoeaiaaCBlastRunsBlastCheckBlastRuns
set_option linter.unusedVariables false
namespace Go.Proofs.Ytjapfakpfoeaiaa.PureA
open Go.RowKit Go.Proofs.Ytjapfakpfoeaiaa.MBlastRuns Go.Proofs.YtjapfakpfoeaiaaW.PrintWords Go.Proofs.YtjapfakpfoeaiaaW.PrintLast Go.Proofs.YtjapfakpfoeaiaaW.PrintMore Go.Proofs.Ytjapfakpfoeaiaa.Evl Go.Proofs.Ytjapfakpfoeaiaa.PureB
open Classical

theorem ev_termVariable (s : ByteArray) (hs : s.size ≤ 140737488351232) : Ev (fun k => term_variable.f k s) (nameOk (bare s)) := by
  unfold term_variable.f
  exact ev_bindc (trim_eq s) (Ev.bind (ev_name _ (by have := bare_size s; omega)) (Ev.now _))

/-- A value that fits a width. -/
def okV (w v : Int) : Bool := if 1 ≤ w then (if w ≤ 64 then decide (v < 2 ^ w.toNat) else false) else false
theorem masks : ∀ w : Nat, w < 65 → 1 ≤ w → shr .u64 18446744073709551615 (64 - (w : Int)) = 2 ^ w - 1 := by decide +kernel
theorem ok_eq (w v : Int) : bits_Ok.f w v = some (okV w v) := by
  have hwide : bits_wide.f w = some (decide (1 ≤ w) && decide (w ≤ 64)) := by
    unfold bits_wide.f
    by_cases h1 : 1 ≤ w
    · rw [if_pos (by omega)]; simp [h1]
    · rw [if_neg (by omega)]; simp [h1]
  unfold bits_Ok.f bits_Mask.f okV
  rw [hwide]
  by_cases h1 : 1 ≤ w
  · by_cases h2 : w ≤ 64
    · have hm := masks w.toNat (by omega) (by omega)
      rw [show ((w.toNat : Nat) : Int) = w by omega] at hm
      simp only [h1, h2, decide_true, Bool.and_self, Option.bind_some, if_true]
      rw [wrap_id (n := 64 - w) (by omega) (by omega), if_pos (by omega), Option.bind_some, hm]
      simp only [Option.some.injEq, decide_eq_decide]
      omega
    · simp [h1, h2]
  · simp [h1]
theorem ev_power (w : Int) (h0 : 0 ≤ w) (h1 : w ≤ 63) : Ev (fun k => retargetref01_Power.f k w) (2 ^ w.toNat) := by
  unfold retargetref01_Power.f
  have key : ∀ (d : Nat) (i : Int), 0 ≤ i → w - i = d → Ev (fun k => retargetref01_Power.l0 k w (2 ^ i.toNat) i) (2 ^ w.toNat) := by
    intro d
    induction d with
    | zero =>
      intro i hi hd
      obtain rfl : i = w := by omega
      exact Ev.step (fun k => by rw [retargetref01_Power.l0]) (ev_neg (by omega) (ev_now rfl))
    | succ d ih =>
      intro i hi hd
      refine Ev.step (fun k => by rw [retargetref01_Power.l0]) (ev_pos (by omega) ?_)
      have hp : ∀ n : Nat, n < 63 → IntKind.u64.wrap ((2 : Int) ^ n + 2 ^ n) = 2 ^ (n + 1) := by decide +kernel
      have e := hp i.toNat (by omega)
      rw [e, wrap_id (n := i + 1) (by omega) (by omega), show i.toNat + 1 = (i + 1).toNat by omega]
      exact ih (i + 1) (by omega) (by omega)
  exact key w.toNat 0 (by omega) (by omega)
theorem ev_refOk (w v : Int) (hv : v < 18446744073709551616) : Ev (fun k => retargetref01_Ok.f k w v) (okV w v) := by
  have hwide : retargetref01_Wide.f w = some (decide (1 ≤ w) && decide (w ≤ 64)) := by
    unfold retargetref01_Wide.f
    by_cases h1 : 1 ≤ w
    · rw [if_pos (by omega)]; simp [h1]
    · rw [if_neg (by omega)]; simp [h1]
  unfold retargetref01_Ok.f
  refine ev_bindc hwide ?_
  unfold okV
  by_cases h1 : 1 ≤ w
  · by_cases h2 : w ≤ 64
    · rw [if_pos h1, if_pos h2]
      refine ev_pos (by simp [h1, h2]) (ev_if (fun h => ev_now ?_) (fun h => Ev.bind (ev_power w (by omega) (by omega)) (ev_now rfl)))
      subst h
      have e : (2 : Int) ^ (64 : Int).toNat = 18446744073709551616 := by decide +kernel
      rw [e, decide_eq_true hv]
    · rw [if_pos h1, if_neg h2]
      exact ev_neg (by simp [h1, h2]) (ev_now rfl)
  · rw [if_neg h1]
    exact ev_neg (by simp [h1]) (ev_now rfl)

/-- A binding that may stand at place i. -/
def boundOk (l : List S59) (i : Int) : Prop :=
  nameOk (bare (rd_T59 l i).f0) = true ∧ okV (rd_T59 l i).f1 (rd_T59 l i).f2 = true ∧ (0 < i → Op.bytesLess (rd_T59 l (i - 1)).f0.toList (rd_T59 l i).f0.toList = true)
noncomputable def chkB (l : List S59) : Int := if l.length > 1000 then 8 else if ∀ j : Int, 0 ≤ j → j < l.length → boundOk l j then 0 else 8
theorem rd59_mem {l : List S59} {i : Int} (h0 : 0 ≤ i) (h1 : i < l.length) : rd_T59 l i ∈ l := getD_mem (by omega)

theorem ev_checkBound (l : List S59) (hs : ∀ x ∈ l, x.f0.size ≤ 140737488351232) : Ev (fun k => term_CheckBound.f k l) (chkB l) := by
  unfold term_CheckBound.f chkB
  refine ev_if (fun h => ev_now (by rw [if_pos (by omega)])) (fun h => ?_)
  rw [if_neg (by omega)]
  refine ev_all (g := fun k i => term_CheckBound.l0 k l l (l.length : Int) i) (l.length : Int) (boundOk l) ?_ ?_ ?_ 0 (by omega) (by omega)
  · intro i h0 h1 hp r hr
    obtain ⟨p1, p2, p3⟩ := hp
    have hv := ev_termVariable (rd_T59 l i).f0 (hs _ (rd59_mem h0 h1))
    rw [p1] at hv
    refine Ev.step (fun k => by rw [term_CheckBound.l0]) (ev_pos h1 (ev_pos h0 (ev_pos h1 (Ev.bind hv (ev_pos rfl (ev_bindc (ok_eq _ _) ?_))))))
    rw [wrap_id (n := i + 1) (by omega) (by omega)]
    refine ev_pos p2 (ev_if (fun h => ?_) (fun h => hr))
    rw [wrap_id (n := i - 1) (by omega) (by omega)]
    exact ev_pos (by omega) (ev_pos (by omega) (ev_pos (p3 (by omega)) hr))
  · intro i h0 h1 hp
    have hv := ev_termVariable (rd_T59 l i).f0 (hs _ (rd59_mem h0 h1))
    refine Ev.step (fun k => by rw [term_CheckBound.l0]) (ev_pos h1 (ev_pos h0 (ev_pos h1 (Ev.bind hv (ev_if (fun q1 => ev_bindc (ok_eq _ _) (ev_if (fun q2 => ?_) (fun _ => ev_now rfl))) (fun _ => ev_now rfl))))))
    refine ev_if (fun q3 => ?_) (fun q3 => absurd ⟨q1, q2, fun q => absurd q q3⟩ hp)
    rw [wrap_id (n := i - 1) (by omega) (by omega)]
    exact ev_pos (by omega) (ev_pos (by omega) (ev_neg (fun q4 => hp ⟨q1, q2, fun _ => q4⟩) (ev_now rfl)))
  · exact Ev.step (fun k => by rw [term_CheckBound.l0]) (ev_neg (by omega) (ev_now rfl))
theorem ev_refCheckBound (l : List S59) (hs : ∀ x ∈ l, x.f0.size ≤ 140737488351232) (hv2 : ∀ x ∈ l, x.f2 < 18446744073709551616) : Ev (fun k => retargetref02_CheckBound.f k l) (chkB l) := by
  unfold retargetref02_CheckBound.f chkB
  refine ev_if (fun h => ev_now (by rw [if_pos (by omega)])) (fun h => ?_)
  rw [if_neg (by omega)]
  refine ev_all (g := fun k i => retargetref02_CheckBound.l0 k l i) (l.length : Int) (boundOk l) ?_ ?_ ?_ 0 (by omega) (by omega)
  · intro i h0 h1 hp r hr
    obtain ⟨p1, p2, p3⟩ := hp
    have hv := ev_variable (rd_T59 l i).f0 (hs _ (rd59_mem h0 h1))
    have ho := ev_refOk (rd_T59 l i).f1 (rd_T59 l i).f2 (hv2 _ (rd59_mem h0 h1))
    rw [p1] at hv
    rw [p2] at ho
    refine Ev.step (fun k => by rw [retargetref02_CheckBound.l0]) (ev_pos h1 (ev_pos h0 (Ev.bind hv (ev_pos rfl (Ev.bind ho (ev_pos rfl ?_))))))
    rw [wrap_id (n := i + 1) (by omega) (by omega)]
    refine ev_if (fun h => ?_) (fun h => hr)
    rw [wrap_id (n := i - 1) (by omega) (by omega)]
    exact ev_pos (by omega) (ev_pos (by omega) (ev_pos (p3 (by omega)) hr))
  · intro i h0 h1 hp
    have hv := ev_variable (rd_T59 l i).f0 (hs _ (rd59_mem h0 h1))
    have ho := ev_refOk (rd_T59 l i).f1 (rd_T59 l i).f2 (hv2 _ (rd59_mem h0 h1))
    refine Ev.step (fun k => by rw [retargetref02_CheckBound.l0]) (ev_pos h1 (ev_pos h0 (Ev.bind hv (ev_if (fun q1 => Ev.bind ho (ev_if (fun q2 => ?_) (fun _ => ev_now rfl))) (fun _ => ev_now rfl)))))
    refine ev_if (fun q3 => ?_) (fun q3 => absurd ⟨q1, q2, fun q => absurd q q3⟩ hp)
    rw [wrap_id (n := i - 1) (by omega) (by omega)]
    exact ev_pos (by omega) (ev_pos (by omega) (ev_neg (fun q4 => hp ⟨q1, q2, fun _ => q4⟩) (ev_now rfl)))
  · exact Ev.step (fun k => by rw [retargetref02_CheckBound.l0]) (ev_neg (by omega) (ev_now rfl))
end Go.Proofs.Ytjapfakpfoeaiaa.PureA
