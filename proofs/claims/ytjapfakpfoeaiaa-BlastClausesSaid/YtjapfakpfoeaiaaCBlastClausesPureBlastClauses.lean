/- The law BlastClauses over lists and numbers: both texts' Check come to one number, and both texts' Clauses to the same clauses. No condition beyond the row's own. -/
import Derived.Test.YtjapfakpfoeaiaaCBlastClausesBlastCheckBlastClauses
set_option linter.unusedVariables false
namespace Go.Proofs.Ytjapfakpfoeaiaa.Pure
open Go.RowKit Go.Proofs.Ytjapfakpfoeaiaa.MBlastClauses Go.Proofs.YtjapfakpfoeaiaaW.PrintWords Go.Proofs.YtjapfakpfoeaiaaW.PrintLast Go.Proofs.YtjapfakpfoeaiaaW.PrintMore Go.Proofs.Ytjapfakpfoeaiaa.Evl Go.Proofs.Ytjapfakpfoeaiaa.PureB

theorem great (a : List S52) (b : List S54) (c : List Int) (ha : a.length ≤ 5864062014805) :
    ∃ r, Ev (fun k => retargetref04_Great.f k a b c) r ∧ (r = false → a.length ≤ 600 ∧ b.length ≤ 100100 ∧ c.length ≤ 100) := by
  unfold retargetref04_Great.f
  have last : ∀ i : Int, ∃ r, Ev (fun k => retargetref04_Great.j1 k i false a b c) r ∧ (r = false → a.length ≤ 600 ∧ b.length ≤ 100100 ∧ c.length ≤ 100) := by
    intro i
    by_cases h : a.length ≤ 600 ∧ b.length ≤ 100100 ∧ c.length ≤ 100
    · refine ⟨false, ?_, fun _ => h⟩
      refine Ev.step (fun k => by rw [retargetref04_Great.j1]) (ev_neg (by decide) (ev_neg (by omega) (ev_neg (by omega) (ev_now (decide_eq_false (by omega))))))
    · refine ⟨true, ?_, fun h => by cases h⟩
      refine Ev.step (fun k => by rw [retargetref04_Great.j1]) (ev_neg (by decide) (ev_if (fun _ => ev_now rfl) (fun _ => ev_if (fun _ => ev_now rfl) (fun _ => ev_now (decide_eq_true (by omega))))))
  refine ev_loop_ex (g := fun k i => retargetref04_Great.l0 k i a b c) (a.length : Int) (fun r => r = false → a.length ≤ 600 ∧ b.length ≤ 100100 ∧ c.length ≤ 100) ?_ ?_ 0 (by omega) (by omega)
  · intro i h0 h1 ⟨r, hr, hq⟩
    by_cases h : i ≤ 600
    · by_cases hb : ((rd_T52 a i).f0.size : Int) > 200
      · refine ⟨true, ?_, fun h => by cases h⟩
        refine Ev.step (fun k => by rw [retargetref04_Great.l0]) (ev_pos h1 ?_)
        rw [decide_eq_true h]
        exact Ev.step (fun k => by rw [retargetref04_Great.j1]) (ev_pos rfl (ev_pos h0 (ev_pos h1 (ev_pos hb (ev_now rfl)))))
      · refine ⟨r, ?_, hq⟩
        refine Ev.step (fun k => by rw [retargetref04_Great.l0]) (ev_pos h1 ?_)
        rw [decide_eq_true h]
        refine Ev.step (fun k => by rw [retargetref04_Great.j1]) (ev_pos rfl (ev_pos h0 (ev_pos h1 (ev_neg hb ?_))))
        rw [wrap_id (n := i + 1) (by omega) (by omega)]
        exact hr
    · obtain ⟨r, hr, hq⟩ := last i
      refine ⟨r, ?_, hq⟩
      refine Ev.step (fun k => by rw [retargetref04_Great.l0]) (ev_pos h1 ?_)
      rw [decide_eq_false h]
      exact hr
  · obtain ⟨r, hr, hq⟩ := last (a.length : Int)
    refine ⟨r, ?_, hq⟩
    exact Ev.step (fun k => by rw [retargetref04_Great.l0]) (ev_neg (by omega) hr)

theorem twin (a : List S52) (b : List S54) (c : List Int) (ha : a.length ≤ 600) (hb : b.length ≤ 100100) (hc : c.length ≤ 100) : retargetref04_Twin.f a b c = some (a, b, c) := by
  unfold retargetref04_Twin.f
  simp only [Option.bind_some, List.length_nil, List.nil_append]
  rw [if_pos (by omega), if_pos (by omega), if_pos (by omega)]

/-- The signed atom of a literal. -/
def lit (x : Int) : Int := if Int.tmod x 2 = 1 then wrap64 (-(wrap64 (wrap64 (Int.tdiv x 2) + 1))) else wrap64 (wrap64 (Int.tdiv x 2) + 1)
theorem literal_eq (x : Int) : blast_literal.f x = some (lit x) := by unfold blast_literal.f lit; split <;> rfl
theorem atom_eq (x : Int) : retargetref04_atom.f x = some (lit x) := by unfold retargetref04_atom.f lit; split <;> rfl

/-- The clauses of d gates from gate i on. -/
def gates (n : Nat) (l : List S54) : Nat → Int → List (List Int)
  | 0, _ => []
  | d + 1, i => [[-(2 + n + i), lit (rd_T54 l i).f0], [-(2 + n + i), lit (rd_T54 l i).f1], [2 + n + i, wrap64 (-lit (rd_T54 l i).f0), wrap64 (-lit (rd_T54 l i).f1)]] ++ gates n l d (i + 1)
theorem gates_length (n : Nat) (l : List S54) : ∀ (d : Nat) (i : Int), (gates n l d i).length = 3 * d
  | 0, _ => rfl
  | d + 1, i => by rw [gates, List.length_append, gates_length n l d]; simp; omega

/-- What the loop of the clauses comes to. -/
theorem ev_clauses (a : List S52) (b : List S54) (c : List Int) (o : Int) (ha : a.length ≤ 600) (hn : 1 + a.length + b.length ≤ 5000) (h0 : 0 ≤ o) (h1 : o < c.length) (n : Int) :
    ∀ (d : Nat) (i : Int) (acc : List (List Int)), 0 ≤ i → (b.length : Int) - i = d → acc.length = 1 + 3 * i.toNat →
      Ev (fun k => blast_Clauses.l0 k o n acc b (b.length : Int) i a b c) (n, acc ++ gates a.length b d i ++ [[lit (rd c o)]], (0 : Int)) := by
  intro d
  induction d with
  | zero =>
    intro i acc hi hd hl
    refine Ev.step (fun k => by rw [blast_Clauses.l0]) (ev_neg (by omega) (ev_pos h0 (ev_pos h1 (ev_bindc (literal_eq _) ?_))))
    refine ev_pos (by omega) (ev_now ?_)
    simp [gates]
  | succ d ih =>
    intro i acc hi hd hl
    have hw : wrap64 (wrap64 (2 + (a.length : Int)) + i) = 2 + a.length + i := by rw [wrap_id (n := 2 + (a.length : Int)) (by omega) (by omega), wrap_id (by omega) (by omega)]
    refine Ev.step (fun k => by rw [blast_Clauses.l0]) (ev_pos (by omega) (ev_pos hi (ev_pos (by omega) (ev_bindc (literal_eq _) (ev_bindc (literal_eq _) (ev_some ?_))))))
    refine ev_pos (by simp; omega) ?_
    rw [hw, wrap_id (n := -(2 + (a.length : Int) + i)) (by omega) (by omega), wrap_id (n := i + 1) (by omega) (by omega)]
    refine ev_eq (ih (i + 1) _ (by omega) (by omega) (by simp; omega)) ?_
    simp only [gates, List.append_assoc]
theorem ev_refClauses (a : List S52) (b : List S54) (c : List Int) (o : Int) (ha : a.length ≤ 600) (hn : 1 + a.length + b.length ≤ 5000) (h0 : 0 ≤ o) (h1 : o < c.length) (n : Int) :
    ∀ (d : Nat) (i : Int) (acc : List (List Int)), 0 ≤ i → (b.length : Int) - i = d → acc.length = 1 + 3 * i.toNat →
      Ev (fun k => retargetref04_Clauses.l0 k o n acc i a b c) (n, acc ++ gates a.length b d i ++ [[lit (rd c o)]], (0 : Int)) := by
  intro d
  induction d with
  | zero =>
    intro i acc hi hd hl
    refine Ev.step (fun k => by rw [retargetref04_Clauses.l0]) (ev_neg (by omega) (ev_pos h0 (ev_pos h1 (ev_bindc (atom_eq _) ?_))))
    refine ev_pos (by omega) (ev_now ?_)
    simp [gates]
  | succ d ih =>
    intro i acc hi hd hl
    have hw : wrap64 (wrap64 (wrap64 (1 + (a.length : Int)) + i) + 1) = 2 + a.length + i := by
      rw [wrap_id (n := 1 + (a.length : Int)) (by omega) (by omega), wrap_id (n := 1 + (a.length : Int) + i) (by omega) (by omega), wrap_id (by omega) (by omega)]; omega
    refine Ev.step (fun k => by rw [retargetref04_Clauses.l0]) (ev_pos (by omega) (ev_pos hi (ev_bindc (atom_eq _) (ev_bindc (atom_eq _) ?_))))
    refine ev_pos (by omega) (ev_some ?_)
    refine ev_pos (by simp; omega) (ev_some ?_)
    refine ev_pos (by simp; omega) ?_
    rw [hw, wrap_id (n := -(2 + (a.length : Int) + i)) (by omega) (by omega), wrap_id (n := i + 1) (by omega) (by omega)]
    refine ev_eq (ih (i + 1) _ (by omega) (by omega) (by simp; omega)) ?_
    simp only [gates, List.append_assoc, List.cons_append, List.nil_append]

/-- What Clauses answers. -/
noncomputable def spec (a : List S52) (b : List S54) (c : List Int) (o : Int) : Int × List (List Int) × Int :=
  if chk a b c = 0 then (if o < 0 ∨ c.length ≤ o then (0, [], 2) else if 1 + a.length + b.length > 5000 then (0, [], 4) else (1 + a.length + b.length, [[-1]] ++ gates a.length b b.length 0 ++ [[lit (rd c o)]], 0))
  else (0, [], chk a b c)

theorem blastClauses (a : List S52) (b : List S54) (c : List Int) (o : Int) (ha : ∀ x ∈ a, x.f0.size ≤ 140737488351232) (hl : a.length ≤ 600) (hb : b.length ≤ 100100) : Ev (fun k => blast_Clauses.f k a b c o) (spec a b c o) := by
  unfold blast_Clauses.f spec
  refine Ev.bind (ev_check a b c ha) ?_
  by_cases h : chk a b c = 0
  · rw [if_pos h]
    refine ev_pos h ?_
    have arg : (o < 0 ∨ c.length ≤ o) → ∀ x, x = true → Ev (fun k => blast_Clauses.j0 k o ([] : List (List Int)) x a b c) ((0 : Int), ([] : List (List Int)), (2 : Int)) := fun _ x hx => by
      subst hx
      exact Ev.step (fun k => by rw [blast_Clauses.j0]) (ev_pos rfl (ev_now rfl))
    by_cases ho : o < 0 ∨ c.length ≤ o
    · rw [if_pos ho]
      exact ev_if (fun _ => arg ho _ rfl) (fun _ => arg ho _ (decide_eq_true (by omega)))
    · rw [if_neg ho]
      refine ev_neg (by omega) ?_
      have hw : wrap64 (wrap64 (1 + (a.length : Int)) + b.length) = 1 + a.length + b.length := by rw [wrap_id (n := 1 + (a.length : Int)) (by omega) (by omega), wrap_id (by omega) (by omega)]
      refine Ev.step (fun k => by rw [blast_Clauses.j0]) (ev_neg (by rw [decide_eq_true_eq]; omega) ?_)
      rw [hw]
      by_cases hn : 1 + a.length + b.length > 5000
      · rw [if_pos hn]
        exact ev_pos (by omega) (ev_now rfl)
      · rw [if_neg hn]
        refine ev_neg (by omega) (ev_pos (by simp) ?_)
        exact ev_clauses a b c o hl (by omega) (by omega) (by omega) _ b.length 0 _ (by omega) (by omega) (by simp)
  · rw [if_neg h]
    exact ev_neg h (ev_now rfl)
theorem refClauses (a : List S52) (b : List S54) (c : List Int) (o : Int) (ha : ∀ x ∈ a, x.f0.size ≤ 140737488351232) (hl : a.length ≤ 600) (hb : b.length ≤ 100100) : Ev (fun k => retargetref04_Clauses.f k a b c o) (spec a b c o) := by
  unfold retargetref04_Clauses.f spec
  refine Ev.bind (ev_refCheck a b c ha) ?_
  by_cases h : chk a b c = 0
  · rw [if_pos h]
    refine ev_pos h ?_
    have arg : (o < 0 ∨ c.length ≤ o) → ∀ x, x = true → Ev (fun k => retargetref04_Clauses.j0 k o x a b c) ((0 : Int), ([] : List (List Int)), (2 : Int)) := fun _ x hx => by
      subst hx
      exact Ev.step (fun k => by rw [retargetref04_Clauses.j0]) (ev_pos rfl (ev_now rfl))
    by_cases ho : o < 0 ∨ c.length ≤ o
    · rw [if_pos ho]
      exact ev_if (fun _ => arg ho _ rfl) (fun _ => arg ho _ (decide_eq_true (by omega)))
    · rw [if_neg ho]
      refine ev_neg (by omega) ?_
      have hw : wrap64 (wrap64 (1 + (a.length : Int)) + b.length) = 1 + a.length + b.length := by rw [wrap_id (n := 1 + (a.length : Int)) (by omega) (by omega), wrap_id (by omega) (by omega)]
      refine Ev.step (fun k => by rw [retargetref04_Clauses.j0]) (ev_neg (by rw [decide_eq_true_eq]; omega) ?_)
      rw [hw]
      by_cases hn : 1 + a.length + b.length > 5000
      · rw [if_pos hn]
        exact ev_pos (by omega) (ev_now rfl)
      · rw [if_neg hn]
        refine ev_neg (by omega) ?_
        exact ev_refClauses a b c o hl (by omega) (by omega) (by omega) _ b.length 0 _ (by omega) (by omega) (by simp)
  · rw [if_neg h]
    exact ev_neg h (Ev.bind (ev_refCheck a b c ha) (ev_now rfl))

theorem spec_rows (a : List S52) (b : List S54) (c : List Int) (o : Int) : (spec a b c o).2.1.length ≤ 15002 ∧ ∀ x ∈ (spec a b c o).2.1, x.length ≤ 3 := by
  have hg : ∀ (n : Nat) (d : Nat) (i : Int), ∀ x ∈ gates n b d i, x.length ≤ 3 := by
    intro n d
    induction d with
    | zero => intro i x hx; simp [gates] at hx
    | succ d ih =>
      intro i x hx
      rw [gates, List.mem_append] at hx
      rcases hx with hx | hx
      · simp at hx
        rcases hx with rfl | rfl | rfl <;> simp
      · exact ih _ x hx
  unfold spec
  split
  · split
    · exact ⟨by simp, fun x hx => by simp at hx⟩
    · split
      · exact ⟨by simp, fun x hx => by simp at hx⟩
      · refine ⟨?_, fun x hx => ?_⟩
        · simp only [List.length_append, gates_length, List.length_cons, List.length_nil]; omega
        · simp only [List.mem_append, List.mem_cons, List.not_mem_nil, or_false] at hx
          rcases hx with (rfl | hx) | rfl
          · simp
          · exact hg _ _ _ x hx
          · simp
  · exact ⟨by simp, fun x hx => by simp at hx⟩

theorem same_rows (l : List (List Int)) (hl : l.length ≤ 15002) (hr : ∀ x ∈ l, x.length ≤ 3) : Ev (fun k => retargetref04_SameClauses.f k l l) true := by
  unfold retargetref04_SameClauses.f
  refine ev_pos rfl ?_
  refine ev_loop (g := fun k i => retargetref04_SameClauses.l0 k l l i) (l.length : Int) (fun _ => true) ?_ ?_ 0 (by omega) (by omega)
  · intro i h0 h1 ih
    have h3 : (rd_L4 l i).length ≤ 3 := hr _ (getD_mem (by omega))
    refine Ev.step (fun k => by rw [retargetref04_SameClauses.l0]) (ev_pos h1 (ev_pos h0 (ev_pos h1 (ev_pos rfl ?_))))
    refine ev_loop (g := fun k j => retargetref04_SameClauses.l1 k l l i j) ((rd_L4 l i).length : Int) (fun _ => true) ?_ ?_ 0 (by omega) (by omega)
    · intro j j0 j1 jh
      refine Ev.step (fun k => by rw [retargetref04_SameClauses.l1]) (ev_pos h0 (ev_pos h1 (ev_pos j1 (ev_pos j0 (ev_pos h1 (ev_pos j1 (ev_pos rfl ?_)))))))
      rw [wrap_id (n := j + 1) (by omega) (by omega)]
      exact jh
    · refine Ev.step (fun k => by rw [retargetref04_SameClauses.l1]) (ev_pos h0 (ev_pos h1 (ev_neg (by omega) ?_)))
      rw [wrap_id (n := i + 1) (by omega) (by omega)]
      exact ih
  · exact Ev.step (fun k => by rw [retargetref04_SameClauses.l0]) (ev_neg (by omega) (ev_now rfl))

theorem same (a : List S52) (b : List S54) (c : List Int) (ha : a.length ≤ 600) (hb : b.length ≤ 100100) (hc : c.length ≤ 100) : Ev (fun k => retargetref04_Same.f k a b c a b c) true := by
  unfold retargetref04_Same.f
  refine ev_pos rfl (ev_pos rfl ?_)
  refine Ev.step (fun k => by rw [retargetref04_Same.j0]) (ev_neg (by simp) ?_)
  have h2 : Ev (fun k => retargetref04_Same.l2 k 0 a b c a b c) true := by
    refine ev_loop (g := fun k i => retargetref04_Same.l2 k i a b c a b c) (c.length : Int) (fun _ => true) ?_ ?_ 0 (by omega) (by omega)
    · intro i h0 h1 ih
      refine Ev.step (fun k => by rw [retargetref04_Same.l2]) (ev_pos h1 (ev_pos h0 (ev_pos h1 (ev_pos rfl ?_))))
      rw [wrap_id (n := i + 1) (by omega) (by omega)]
      exact ih
    · exact Ev.step (fun k => by rw [retargetref04_Same.l2]) (ev_neg (by omega) (ev_now rfl))
  have h1 : Ev (fun k => retargetref04_Same.l1 k 0 a b c a b c) true := by
    refine ev_loop (g := fun k i => retargetref04_Same.l1 k i a b c a b c) (b.length : Int) (fun _ => true) ?_ ?_ 0 (by omega) (by omega)
    · intro i h0 h1 ih
      refine Ev.step (fun k => by rw [retargetref04_Same.l1]) (ev_pos h1 (ev_pos h0 (ev_pos h1 (ev_neg (by simp) ?_))))
      rw [wrap_id (n := i + 1) (by omega) (by omega)]
      exact ih
    · exact Ev.step (fun k => by rw [retargetref04_Same.l1]) (ev_neg (by omega) h2)
  refine ev_loop (g := fun k i => retargetref04_Same.l0 k i a b c a b c) (a.length : Int) (fun _ => true) ?_ ?_ 0 (by omega) (by omega)
  · intro i h0 h1 ih
    refine Ev.step (fun k => by rw [retargetref04_Same.l0]) (ev_pos h1 (ev_pos h0 (ev_pos h1 (ev_neg (by simp) ?_))))
    rw [wrap_id (n := i + 1) (by omega) (by omega)]
    exact ih
  · exact Ev.step (fun k => by rw [retargetref04_Same.l0]) (ev_neg (by omega) h1)

theorem BlastClauses (a : List S52) (b : List S54) (c : List Int) (o : Int)
    (hw : (a.length * 24 ≤ 140737488351232 ∧ ∀ x ∈ a, x.f0.size ≤ 140737488351232 ∧ (Lit.int .i64 x.f1).wf = true) ∧ (b.length * 16 ≤ 140737488351232 ∧ ∀ x ∈ b, (Lit.int .i64 x.f0).wf = true ∧ (Lit.int .i64 x.f1).wf = true) ∧ (c.length * 8 ≤ 140737488351232 ∧ ∀ x ∈ c, (Lit.int .i64 x).wf = true))
    (ho : (Lit.int .i64 o).wf = true) : ∃ k, retargetlaw04_BlastClauses.f k a b c o = some true := by
  obtain ⟨⟨hla, hsa⟩, ⟨hlb, hsb⟩, ⟨hlc, hsc⟩⟩ := hw
  refine Ev.rounds (g := fun k => retargetlaw04_BlastClauses.f k a b c o) ?_
  unfold retargetlaw04_BlastClauses.f
  obtain ⟨r, hr, hq⟩ := great a b c (by omega)
  refine Ev.bind hr (ev_if (fun _ => ev_now rfl) (fun hf => ?_))
  obtain ⟨h1, h2, h3⟩ := hq (by simpa using hf)
  have hs : ∀ x ∈ a, x.f0.size ≤ 140737488351232 := fun x hx => (hsa x hx).1
  refine ev_bindc (twin a b c h1 h2 h3) ?_
  refine Ev.bind (blastClauses a b c o hs h1 h2) (Ev.bind (refClauses a b c o hs h1 h2) ?_)
  have hrows := spec_rows a b c o
  exact ev_pos rfl (Ev.bind (same_rows _ hrows.1 hrows.2) (ev_pos rfl (ev_pos rfl (Ev.bind (same a b c h1 h2 h3) (ev_now rfl)))))
end Go.Proofs.Ytjapfakpfoeaiaa.Pure
