/- The law BlastRuns over lists and numbers. No condition beyond the row's own. -/
import Derived.Test.YtjapfakpfoeaiaaCBlastRunsPureRunsC
set_option linter.unusedVariables false
namespace Go.Proofs.Ytjapfakpfoeaiaa.Pure
open Go.RowKit Go.Proofs.Ytjapfakpfoeaiaa.MBlastRuns Go.Proofs.YtjapfakpfoeaiaaW.PrintWords Go.Proofs.YtjapfakpfoeaiaaW.PrintLast Go.Proofs.YtjapfakpfoeaiaaW.PrintMore Go.Proofs.Ytjapfakpfoeaiaa.Evl Go.Proofs.Ytjapfakpfoeaiaa.PureB Go.Proofs.Ytjapfakpfoeaiaa.PureA

theorem great (a : List S52) (b : List S54) (c : List Int) (ha : a.length ≤ 5864062014805) :
    ∃ r, Ev (fun k => retargetref04_Great.f k a b c) r ∧ (r = false → a.length ≤ 600 ∧ b.length ≤ 100100 ∧ c.length ≤ 100) := by
  unfold retargetref04_Great.f
  have last : ∀ i : Int, ∃ r, Ev (fun k => retargetref04_Great.j1 k i false a b c) r ∧ (r = false → a.length ≤ 600 ∧ b.length ≤ 100100 ∧ c.length ≤ 100) := by
    intro i
    by_cases h : a.length ≤ 600 ∧ b.length ≤ 100100 ∧ c.length ≤ 100
    · refine ⟨false, ?_, fun _ => h⟩
      refine Ev.step (fun k => by rw [retargetref04_Great.j1]) (ev_neg (by decide) (ev_neg (by omega) (ev_neg (by omega) (ev_now (decide_eq_false (by omega))))))
    · refine ⟨true, ?_, fun h => by cases h⟩
      refine Ev.step (fun k => by rw [retargetref04_Great.j1]) (ev_neg (by decide) (ev_if (fun _ => ev_now rfl) (fun _ => ev_if (fun _ => ev_now rfl) (fun _ => ev_now (decide_eq_true (by omega))))))
  refine ev_loop_ex (g := fun k i => retargetref04_Great.l0 k i a b c) (a.length : Int) (fun r => r = false → a.length ≤ 600 ∧ b.length ≤ 100100 ∧ c.length ≤ 100) ?_ ?_ 0 (by omega) (by omega)
  · intro i h0 h1 ⟨r, hr, hq⟩
    by_cases h : i ≤ 600
    · by_cases hb : ((rd_T52 a i).f0.size : Int) > 200
      · refine ⟨true, ?_, fun h => by cases h⟩
        refine Ev.step (fun k => by rw [retargetref04_Great.l0]) (ev_pos h1 ?_)
        rw [decide_eq_true h]
        exact Ev.step (fun k => by rw [retargetref04_Great.j1]) (ev_pos rfl (ev_pos h0 (ev_pos h1 (ev_pos hb (ev_now rfl)))))
      · refine ⟨r, ?_, hq⟩
        refine Ev.step (fun k => by rw [retargetref04_Great.l0]) (ev_pos h1 ?_)
        rw [decide_eq_true h]
        refine Ev.step (fun k => by rw [retargetref04_Great.j1]) (ev_pos rfl (ev_pos h0 (ev_pos h1 (ev_neg hb ?_))))
        rw [wrap_id (n := i + 1) (by omega) (by omega)]
        exact hr
    · obtain ⟨r, hr, hq⟩ := last i
      refine ⟨r, ?_, hq⟩
      refine Ev.step (fun k => by rw [retargetref04_Great.l0]) (ev_pos h1 ?_)
      rw [decide_eq_false h]
      exact hr
  · obtain ⟨r, hr, hq⟩ := last (a.length : Int)
    refine ⟨r, ?_, hq⟩
    exact Ev.step (fun k => by rw [retargetref04_Great.l0]) (ev_neg (by omega) hr)

theorem twin (a : List S52) (b : List S54) (c : List Int) (ha : a.length ≤ 600) (hb : b.length ≤ 100100) (hc : c.length ≤ 100) : retargetref04_Twin.f a b c = some (a, b, c) := by
  unfold retargetref04_Twin.f
  simp only [Option.bind_some, List.length_nil, List.nil_append]
  rw [if_pos (by omega), if_pos (by omega), if_pos (by omega)]

theorem same (a : List S52) (b : List S54) (c : List Int) (ha : a.length ≤ 600) (hb : b.length ≤ 100100) (hc : c.length ≤ 100) : Ev (fun k => retargetref04_Same.f k a b c a b c) true := by
  unfold retargetref04_Same.f
  refine ev_pos rfl (ev_pos rfl ?_)
  refine Ev.step (fun k => by rw [retargetref04_Same.j0]) (ev_neg (by simp) ?_)
  have h2 : Ev (fun k => retargetref04_Same.l2 k 0 a b c a b c) true := by
    refine ev_loop (g := fun k i => retargetref04_Same.l2 k i a b c a b c) (c.length : Int) (fun _ => true) ?_ ?_ 0 (by omega) (by omega)
    · intro i h0 h1 ih
      refine Ev.step (fun k => by rw [retargetref04_Same.l2]) (ev_pos h1 (ev_pos h0 (ev_pos h1 (ev_pos rfl ?_))))
      rw [wrap_id (n := i + 1) (by omega) (by omega)]
      exact ih
    · exact Ev.step (fun k => by rw [retargetref04_Same.l2]) (ev_neg (by omega) (ev_now rfl))
  have h1 : Ev (fun k => retargetref04_Same.l1 k 0 a b c a b c) true := by
    refine ev_loop (g := fun k i => retargetref04_Same.l1 k i a b c a b c) (b.length : Int) (fun _ => true) ?_ ?_ 0 (by omega) (by omega)
    · intro i h0 h1 ih
      refine Ev.step (fun k => by rw [retargetref04_Same.l1]) (ev_pos h1 (ev_pos h0 (ev_pos h1 (ev_neg (by simp) ?_))))
      rw [wrap_id (n := i + 1) (by omega) (by omega)]
      exact ih
    · exact Ev.step (fun k => by rw [retargetref04_Same.l1]) (ev_neg (by omega) h2)
  refine ev_loop (g := fun k i => retargetref04_Same.l0 k i a b c a b c) (a.length : Int) (fun _ => true) ?_ ?_ 0 (by omega) (by omega)
  · intro i h0 h1 ih
    refine Ev.step (fun k => by rw [retargetref04_Same.l0]) (ev_pos h1 (ev_pos h0 (ev_pos h1 (ev_neg (by simp) ?_))))
    rw [wrap_id (n := i + 1) (by omega) (by omega)]
    exact ih
  · exact Ev.step (fun k => by rw [retargetref04_Same.l0]) (ev_neg (by omega) h1)

theorem greatBound (l : List S59) : ∃ r, Ev (fun k => retargetref02_GreatBound.f k l ([] : List S95)) r := by
  unfold retargetref02_GreatBound.f
  by_cases h : l.length > 1100
  · exact ⟨true, ev_pos (by omega) (Ev.step (fun k => by rw [retargetref02_GreatBound.j0]) (ev_pos rfl (ev_now rfl)))⟩
  · have hloop : ∃ r, Ev (fun k => retargetref02_GreatBound.l0 k l 0) r := by
      obtain ⟨r, hr, _⟩ := ev_loop_ex (g := fun k i => retargetref02_GreatBound.l0 k l i) (l.length : Int) (fun _ => True) (fun i h0 h1 ⟨r, hr, _⟩ => by
        by_cases hb : (((rd_T59 l i).f0).size : Int) > 200
        · refine ⟨true, ?_, trivial⟩
          refine Ev.step (fun k => by rw [retargetref02_GreatBound.l0]) ?_
          exact ev_pos h1 (ev_pos h0 (ev_pos hb (ev_now rfl)))
        · refine ⟨r, ?_, trivial⟩
          refine Ev.step (fun k => by rw [retargetref02_GreatBound.l0]) ?_
          refine ev_pos h1 (ev_pos h0 (ev_neg hb ?_))
          rw [wrap_id (n := i + 1) (by omega) (by omega)]
          exact hr) (by
        refine ⟨false, ?_, trivial⟩
        refine Ev.step (fun k => by rw [retargetref02_GreatBound.l0]) ?_
        exact ev_neg (by omega) (ev_now rfl)) 0 (by omega) (by omega)
      exact ⟨r, hr⟩
    obtain ⟨r, hr⟩ := hloop
    refine ⟨r, ev_neg (by omega) ?_⟩
    refine Ev.step (fun k => by rw [retargetref02_GreatBound.j0]) ?_
    exact ev_neg (by simp) hr

theorem sameBools (l : List Bool) (hl : l.length ≤ 600) : Ev (fun k => retargetref04_SameBools.f k l l) true := by
  unfold retargetref04_SameBools.f
  refine ev_pos rfl ?_
  refine ev_loop (g := fun k i => retargetref04_SameBools.l0 k l l i) (l.length : Int) (fun _ => true) ?_ ?_ 0 (by omega) (by omega)
  · intro i h0 h1 ih
    refine Ev.step (fun k => by rw [retargetref04_SameBools.l0]) ?_
    refine ev_pos h1 (ev_pos h0 (ev_pos h1 (ev_neg (by simp) ?_)))
    rw [wrap_id (n := i + 1) (by omega) (by omega)]
    exact ih
  · refine Ev.step (fun k => by rw [retargetref04_SameBools.l0]) ?_
    exact ev_neg (by omega) (ev_now rfl)

theorem BlastRuns (a : List S52) (b : List S54) (c : List Int) (m : List Bool) (l : List S59)
    (hw : (a.length * 24 ≤ 140737488351232 ∧ ∀ x ∈ a, x.f0.size ≤ 140737488351232 ∧ (Lit.int .i64 x.f1).wf = true) ∧ (b.length * 16 ≤ 140737488351232 ∧ ∀ x ∈ b, (Lit.int .i64 x.f0).wf = true ∧ (Lit.int .i64 x.f1).wf = true) ∧ (c.length * 8 ≤ 140737488351232 ∧ ∀ x ∈ c, (Lit.int .i64 x).wf = true))
    (hl : l.length * 32 ≤ 140737488351232 ∧ ∀ x ∈ l, x.f0.size ≤ 140737488351232 ∧ (Lit.int .i64 x.f1).wf = true ∧ (Lit.int .u64 x.f2).wf = true) : ∃ k, retargetlaw04_BlastRuns.f k a b c m l = some true := by
  obtain ⟨⟨hla, hsa⟩, ⟨hlb, hsb⟩, ⟨hlc, hsc⟩⟩ := hw
  refine Ev.rounds (g := fun k => retargetlaw04_BlastRuns.f k a b c m l) ?_
  unfold retargetlaw04_BlastRuns.f
  obtain ⟨r, hr, hq⟩ := great a b c (by omega)
  have hs : ∀ x ∈ a, x.f0.size ≤ 140737488351232 := fun x hx => (hsa x hx).1
  have hsl : ∀ x ∈ l, x.f0.size ≤ 140737488351232 := fun x hx => (hl.2 x hx).1
  have hvl : ∀ x ∈ l, 0 ≤ x.f2 ∧ x.f2 < 18446744073709551616 := fun x hx => by
    have := (hl.2 x hx).2.2
    simp [Lit.wf] at this
    have e0 : IntKind.u64.min = 0 := by decide
    have e1 : IntKind.u64.max = 18446744073709551615 := by decide
    omega
  have yes : ∀ x : Bool, x = true → Ev (fun k => retargetlaw04_BlastRuns.j0 k m l x a b c) true := fun x hx => by
    subst hx
    refine Ev.step (fun k => by rw [retargetlaw04_BlastRuns.j0]) ?_
    exact ev_pos rfl (ev_now rfl)
  refine Ev.bind hr (ev_if (fun _ => yes _ rfl) (fun hf => ?_))
  obtain ⟨h1, h2, h3⟩ := hq (by simpa using hf)
  refine ev_if (fun _ => yes _ rfl) (fun hm => ?_)
  obtain ⟨g, hg⟩ := greatBound l
  refine Ev.bind hg ?_
  cases g with
  | true => exact yes _ rfl
  | false =>
    refine Ev.step (fun k => by rw [retargetlaw04_BlastRuns.j0]) ?_
    obtain ⟨r, r1, r2, r3⟩ := runs a b c m hs h3 (by omega)
    obtain ⟨i, i1, i2, i3⟩ := inputs a b c l hs hsl hvl
    refine ev_neg (fun q => by cases q) (ev_bindc (twin a b c h1 h2 h3) ?_)
    refine Ev.bind r1 (Ev.bind r2 (Ev.bind i1 (Ev.bind i2 (Ev.bind (ev_check a b c hs) (Ev.bind (ev_refCheck a b c hs) ?_)))))
    refine ev_pos rfl (Ev.bind (sameBools _ (by omega)) (ev_pos rfl (ev_pos rfl (Ev.bind (sameBools _ i3) (ev_pos rfl (ev_pos rfl (Ev.bind (same a b c h1 h2 h3) (ev_now rfl))))))))
end Go.Proofs.Ytjapfakpfoeaiaa.Pure
