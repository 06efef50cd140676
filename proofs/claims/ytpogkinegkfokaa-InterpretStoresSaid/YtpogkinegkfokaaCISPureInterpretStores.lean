/- The law InterpretStores over lists and numbers: both texts' Store come to the same cells and error, both texts' Same to the same answer. No condition beyond the row's own. -/
import Derived.Test.YtpogkinegkfokaaCISPureStoresB
set_option linter.unusedVariables false
namespace Go.Proofs.Ytpogkinegkfokaa.Pure
open Go.RowKit Go.Proofs.Ytpogkinegkfokaa.MInterpretStores Go.Proofs.YtpogkinegkfokaaW.PrintWords Go.Proofs.YtpogkinegkfokaaW.PrintLast Go.Proofs.YtpogkinegkfokaaW.PrintMore Go.Proofs.Ytpogkinegkfokaa.Evl Go.Proofs.Ytpogkinegkfokaa.PureA Go.Proofs.Ytpogkinegkfokaa.PureB
open Classical

theorem ev_stores (l : List S36) (a w x : Int) (hw : ∀ y ∈ l, 0 ≤ y.f0) (ha : 0 ≤ a) (ha1 : a < 18446744073709551616) (hx : 0 ≤ x) (hx1 : x < 18446744073709551616) :
    ∃ r : List S36 × Int, r.1.length ≤ 4096 ∧ Ev (fun k => interpret_Store.f k l a w x) r ∧ Ev (fun k => retargetref19_Store.f k l a w x) r := by
  have badI : ∀ {g : Nat → Option (List S36 × Int)}, Ev (fun k => interpret_Store.j0 k l a w x true) ([], 2) :=
    fun {_} => Ev.step (fun k => by rw [interpret_Store.j0]) (ev_pos rfl (ev_now rfl))
  have badR : Ev (fun k => retargetref19_Store.j0 k l a w x true) ([], 2) := Ev.step (fun k => by rw [retargetref19_Store.j0]) (ev_pos rfl (ev_now rfl))
  have badI' : Ev (fun k => interpret_Store.j0 k l a w x true) ([], 2) := badI (g := fun _ => none)
  unfold interpret_Store.f retargetref19_Store.f
  cases hm : memB l with
  | false =>
    refine ⟨([], 2), by simp, Ev.bind (ev_memory l hw) ?_, Ev.bind (ev_refMemory l) ?_⟩
    · rw [hm]
      exact ev_neg (by simp) badI'
    · rw [hm]
      exact ev_neg (by simp) badR
  | true =>
    obtain ⟨hs, hl⟩ := memB_srt hm
    have hb32 := below_eq a 32 ha (by omega) (by omega)
    have h32 : ((32 : Nat) : Int) = 32 := rfl
    have p32 : (2 : Int) ^ 32 = 4294967296 := by decide +kernel
    rw [h32, p32] at hb32
    by_cases hat : a ≤ 4294967295
    · by_cases hc : w = 8 ∨ w = 16 ∨ w = 32 ∨ w = 64
      · obtain ⟨m, hm1, hm8, rfl⟩ : ∃ m : Nat, 1 ≤ m ∧ m ≤ 8 ∧ w = 8 * (m : Int) := by
          rcases hc with rfl | rfl | rfl | rfl
          · exact ⟨1, by omega, by omega, rfl⟩
          · exact ⟨2, by omega, by omega, rfl⟩
          · exact ⟨4, by omega, by omega, rfl⟩
          · exact ⟨8, by omega, by omega, rfl⟩
        have hb := below_eq x (8 * m) hx (by omega) (by omega)
        have hok := ev_refOk (8 * m) x (by omega) (by omega) hx1
        rw [show ((8 * m : Nat) : Int) = 8 * (m : Int) by omega] at hb hok
        have hcon := ev_contains (8 * (m : Int))
        rw [decide_eq_true hc] at hcon
        cases hfit : decide (x < 2 ^ (8 * m)) with
        | false =>
          rw [hfit] at hb hok
          refine ⟨([], 2), by simp, Ev.bind (ev_memory l hw) ?_, Ev.bind (ev_refMemory l) ?_⟩
          · rw [hm]
            refine ev_pos rfl (ev_bindc hb32 (ev_pos (by simp; omega) (Ev.bind hcon (ev_pos rfl (ev_bindc hb badI')))))
          · rw [hm]
            refine ev_pos rfl (ev_neg (by omega) ?_)
            have hq := Ev.bind (f := fun n t => retargetref19_Store.j0 n l a (8 * (m : Int)) x (!t)) hok badR
            rcases hc with h | h | h | h
            · exact ev_pos h hq
            · exact ev_neg (by omega) (ev_pos h hq)
            · exact ev_neg (by omega) (ev_neg (by omega) (ev_pos h hq))
            · exact ev_neg (by omega) (ev_neg (by omega) (ev_neg (by omega) (ev_pos h hq)))
        | true =>
          rw [hfit] at hb hok
          obtain ⟨r, hr, h1, h2⟩ := ev_loops a x m hm8 ha hat hx hx1 m 0 l (by omega) hs (by omega)
          have e1 : (8 * ((0 : Nat) : Int)) = 0 := rfl
          have e2 : (a + ((0 : Nat) : Int)) % 4294967296 = a := by omega
          have e3 : x / 2 ^ (8 * 0) = x := by simp
          rw [e1] at h1
          rw [e2, e3] at h2
          refine ⟨r, hr, Ev.bind (ev_memory l hw) ?_, Ev.bind (ev_refMemory l) ?_⟩
          · rw [hm]
            refine ev_pos rfl (ev_bindc hb32 (ev_pos (by simp; omega) (Ev.bind hcon (ev_pos rfl (ev_bindc hb ?_)))))
            refine Ev.step (fun k => by rw [interpret_Store.j0]) (ev_neg (by simp) (ev_bindc (a := l) ?_ h1))
            unfold api_Cell_13.f
            rw [if_pos (by omega)]
          · rw [hm]
            refine ev_pos rfl (ev_neg (by omega) ?_)
            have hj : Ev (fun k => retargetref19_Store.j0 k l a (8 * (m : Int)) x (!true)) r := by
              refine Ev.step (fun k => by rw [retargetref19_Store.j0]) (ev_neg (by simp) (ev_pos (by simp; omega) ?_))
              rw [List.nil_append]
              exact h2
            have hq := Ev.bind (f := fun n t => retargetref19_Store.j0 n l a (8 * (m : Int)) x (!t)) hok hj
            rcases hc with h | h | h | h
            · exact ev_pos h hq
            · exact ev_neg (by omega) (ev_pos h hq)
            · exact ev_neg (by omega) (ev_neg (by omega) (ev_pos h hq))
            · exact ev_neg (by omega) (ev_neg (by omega) (ev_neg (by omega) (ev_pos h hq)))
      · have hcon := ev_contains w
        rw [decide_eq_false hc] at hcon
        refine ⟨([], 2), by simp, Ev.bind (ev_memory l hw) ?_, Ev.bind (ev_refMemory l) ?_⟩
        · rw [hm]
          refine ev_pos rfl (ev_bindc hb32 (ev_pos (by simp; omega) (Ev.bind hcon (ev_neg (by simp) badI'))))
        · rw [hm]
          exact ev_pos rfl (ev_neg (by omega) (ev_neg (by omega) (ev_neg (by omega) (ev_neg (by omega) (ev_neg (by omega) badR)))))
    · refine ⟨([], 2), by simp, Ev.bind (ev_memory l hw) ?_, Ev.bind (ev_refMemory l) ?_⟩
      · rw [hm]
        exact ev_pos rfl (ev_bindc hb32 (ev_neg (by simp; omega) badI'))
      · rw [hm]
        exact ev_pos rfl (ev_pos (by omega) badR)

/-! ### What is compared -/
def cellEq (x y : List S36) (i : Int) : Prop := (rd_T36 x i).f0 = (rd_T36 y i).f0 ∧ (rd_T36 x i).f1 = (rd_T36 y i).f1
noncomputable def cellsB (x y : List S36) : Bool := if (x.length : Int) = (y.length : Int) then (if ∀ j : Int, 0 ≤ j → j < x.length → cellEq x y j then true else false) else false
theorem cellsB_self (x : List S36) : cellsB x x = true := by
  unfold cellsB
  rw [if_pos rfl, if_pos (fun _ _ _ => ⟨rfl, rfl⟩)]
theorem ev_sameCells (x y : List S36) (hl : x.length ≤ 100000) : Ev (fun k => retargetref19_SameCells.f k x y) (cellsB x y) := by
  unfold retargetref19_SameCells.f cellsB
  refine ev_if (fun h => ?_) (fun h => ev_now (by rw [if_neg h]))
  rw [if_pos h]
  refine ev_all (g := fun k i => retargetref19_SameCells.l0 k x y i) (x.length : Int) (cellEq x y) ?_ ?_ ?_ 0 (by omega) (by omega)
  · intro i h0 h1 hp r hr
    refine Ev.step (fun k => by rw [retargetref19_SameCells.l0]) (ev_pos h1 (ev_pos h0 (ev_pos (by omega) (ev_neg (by simp [hp.1, hp.2]) ?_))))
    rw [wrap_id (n := i + 1) (by omega) (by omega)]
    exact hr
  · intro i h0 h1 hp
    refine Ev.step (fun k => by rw [retargetref19_SameCells.l0]) (ev_pos h1 (ev_pos h0 (ev_pos (by omega) (ev_pos ?_ (ev_now rfl)))))
    unfold cellEq at hp
    by_cases h2 : (rd_T36 x i).f0 = (rd_T36 y i).f0
    · have h3 : ¬ (rd_T36 x i).f1 = (rd_T36 y i).f1 := fun h3 => hp ⟨h2, h3⟩
      simp [h2, h3]
    · simp [h2]
  · exact Ev.step (fun k => by rw [retargetref19_SameCells.l0]) (ev_neg (by omega) (ev_now rfl))
theorem ev_equalCells (x y : List S36) (hl : x.length ≤ 100000) : Ev (fun k => api_Cell_22.f k x y) (cellsB x y) := by
  unfold api_Cell_22.f cellsB
  refine ev_if (fun h => ?_) (fun h => ev_now (by rw [if_neg h]))
  rw [if_pos h]
  refine ev_all (g := fun k i => api_Cell_22.l0 k x y (x.length : Int) i) (x.length : Int) (cellEq x y) ?_ ?_ ?_ 0 (by omega) (by omega)
  · intro i h0 h1 hp r hr
    refine Ev.step (fun k => by rw [api_Cell_22.l0]) (ev_pos h1 (ev_pos h0 (ev_pos h1 (ev_pos (by omega) (ev_neg (by simp [hp.1, hp.2]) ?_)))))
    rw [wrap_id (n := i + 1) (by omega) (by omega)]
    exact hr
  · intro i h0 h1 hp
    refine Ev.step (fun k => by rw [api_Cell_22.l0]) (ev_pos h1 (ev_pos h0 (ev_pos h1 (ev_pos (by omega) (ev_pos ?_ (ev_now rfl))))))
    unfold cellEq at hp
    by_cases h2 : (rd_T36 x i).f0 = (rd_T36 y i).f0
    · have h3 : ¬ (rd_T36 x i).f1 = (rd_T36 y i).f1 := fun h3 => hp ⟨h2, h3⟩
      simp [h2, h3]
    · simp [h2]
  · exact Ev.step (fun k => by rw [api_Cell_22.l0]) (ev_neg (by omega) (ev_now rfl))
noncomputable def actsB (x y : List Int) : Bool := if (x.length : Int) = (y.length : Int) then (if ∀ j : Int, 0 ≤ j → j < x.length → rd x j = rd y j then true else false) else false
theorem actsB_self (x : List Int) : actsB x x = true := by
  unfold actsB
  rw [if_pos rfl, if_pos (fun _ _ _ => rfl)]
theorem ev_sameActs (x y : List Int) (hl : x.length ≤ 100000) : Ev (fun k => retargetref19_SameActs.f k x y) (actsB x y) := by
  unfold retargetref19_SameActs.f actsB
  refine ev_if (fun h => ?_) (fun h => ev_now (by rw [if_neg h]))
  rw [if_pos h]
  refine ev_all (g := fun k i => retargetref19_SameActs.l0 k x y i) (x.length : Int) (fun i => rd x i = rd y i) ?_ ?_ ?_ 0 (by omega) (by omega)
  · intro i h0 h1 hp r hr
    refine Ev.step (fun k => by rw [retargetref19_SameActs.l0]) (ev_pos h1 (ev_pos h0 (ev_pos (by omega) (ev_pos hp ?_))))
    rw [wrap_id (n := i + 1) (by omega) (by omega)]
    exact hr
  · intro i h0 h1 hp
    exact Ev.step (fun k => by rw [retargetref19_SameActs.l0]) (ev_pos h1 (ev_pos h0 (ev_pos (by omega) (ev_neg hp (ev_now rfl)))))
  · exact Ev.step (fun k => by rw [retargetref19_SameActs.l0]) (ev_neg (by omega) (ev_now rfl))
theorem ev_equalActs (x y : List Int) (hl : x.length ≤ 100000) : Ev (fun k => slices_Equal_uint64_uint64.f k x y) (actsB x y) := by
  unfold slices_Equal_uint64_uint64.f actsB
  refine ev_if (fun h => ?_) (fun h => ev_now (by rw [if_neg h]))
  rw [if_pos h]
  refine ev_all (g := fun k i => slices_Equal_uint64_uint64.l0 k x y (x.length : Int) i) (x.length : Int) (fun i => rd x i = rd y i) ?_ ?_ ?_ 0 (by omega) (by omega)
  · intro i h0 h1 hp r hr
    refine Ev.step (fun k => by rw [slices_Equal_uint64_uint64.l0]) (ev_pos h1 (ev_pos h0 (ev_pos h1 (ev_pos (by omega) (ev_pos hp ?_)))))
    rw [wrap_id (n := i + 1) (by omega) (by omega)]
    exact hr
  · intro i h0 h1 hp
    exact Ev.step (fun k => by rw [slices_Equal_uint64_uint64.l0]) (ev_pos h1 (ev_pos h0 (ev_pos h1 (ev_pos (by omega) (ev_neg hp (ev_now rfl))))))
  · exact Ev.step (fun k => by rw [slices_Equal_uint64_uint64.l0]) (ev_neg (by omega) (ev_now rfl))
noncomputable def sameB (p : List Int) (q r : Int) (s : List S36) (p' : List Int) (q' r' : Int) (s' : List S36) : Bool :=
  if actsB p p' = true then (if q = q' then (if r = r' then cellsB s s' else false) else false) else false
theorem ev_same (p : List Int) (q r : Int) (s : List S36) (p' : List Int) (q' r' : Int) (s' : List S36) (hp : p.length ≤ 100000) (hs : s.length ≤ 100000) :
    Ev (fun k => interpret_Same.f k p q r s p' q' r' s') (sameB p q r s p' q' r' s') ∧ Ev (fun k => retargetref19_Same.f k p q r s p' q' r' s') (sameB p q r s p' q' r' s') := by
  unfold interpret_Same.f retargetref19_Same.f sameB
  refine ⟨Ev.bind (ev_equalActs p p' hp) ?_, Ev.bind (ev_sameActs p p' hp) ?_⟩
  · refine ev_if (fun h => ?_) (fun h => ev_now (by rw [if_neg h]))
    rw [if_pos h]
    refine ev_if (fun h => ?_) (fun h => ev_now (by rw [if_neg h]))
    rw [if_pos h]
    refine ev_if (fun h => ?_) (fun h => ev_now (by rw [if_neg h]))
    rw [if_pos h]
    exact Ev.bind (ev_equalCells s s' hs) (ev_now rfl)
  · refine ev_if (fun h => ?_) (fun h => ev_now (by rw [if_neg h]))
    rw [if_pos h]
    refine ev_if (fun h => ?_) (fun h => ev_now (by rw [if_neg h]))
    rw [if_pos h]
    refine ev_if (fun h => ?_) (fun h => ev_now (by rw [if_neg h]))
    rw [if_pos h]
    exact Ev.bind (ev_sameCells s s' hs) (ev_now rfl)
theorem sameB_self (p : List Int) (q r : Int) (s : List S36) : sameB p q r s p q r s = true := by
  unfold sameB
  rw [if_pos (actsB_self p), if_pos rfl, if_pos rfl, cellsB_self]

theorem InterpretStores (l : List S36) (a w x : Int) (p : List Int) (q r : Int) (s : List S36) (p' : List Int) (q' r' : Int) (s' : List S36)
    (hw : ∀ y ∈ l, 0 ≤ y.f0) (ha : 0 ≤ a) (ha1 : a < 18446744073709551616) (hx : 0 ≤ x) (hx1 : x < 18446744073709551616) :
    ∃ k, retargetlaw19_InterpretStores.f k l a w x p q r s p' q' r' s' = some true := by
  apply Ev.rounds
  have out : Ev (fun k => retargetlaw19_InterpretStores.j0 k l a w x true p q r s p' q' r' s') true := Ev.step (fun k => by rw [retargetlaw19_InterpretStores.j0]) (ev_pos rfl (ev_now rfl))
  unfold retargetlaw19_InterpretStores.f
  refine ev_if (fun _ => out) (fun h1 => ev_if (fun _ => out) (fun h2 => ev_if (fun _ => out) (fun h3 => ev_if (fun _ => out) (fun h4 => ?_))))
  by_cases h5 : (p'.length : Int) > 4200
  · rw [decide_eq_true h5]
    exact out
  · rw [decide_eq_false h5]
    refine Ev.step (fun k => by rw [retargetlaw19_InterpretStores.j0]) (ev_neg (by simp) (ev_bindc (a := l) ?_ ?_))
    · unfold retargetref19_TwinCells.f
      rw [if_pos (by simp; omega), List.nil_append]
    · obtain ⟨res, hr, e1, e2⟩ := ev_stores l a w x hw ha ha1 hx hx1
      obtain ⟨f1, f2⟩ := ev_same p q r s p' q' r' s' (by omega) (by omega)
      obtain ⟨g1, _⟩ := ev_same p q r s p q r s (by omega) (by omega)
      rw [sameB_self] at g1
      have hc := ev_sameCells res.1 res.1 (by omega)
      rw [cellsB_self] at hc
      refine Ev.bind e1 (Ev.bind e2 (Ev.bind hc (ev_pos rfl (ev_pos rfl (Ev.bind f1 (Ev.bind f2 (ev_pos (by simp) (Ev.bind g1 ?_))))))))
      refine Ev.step (fun k => by rw [retargetlaw19_InterpretStores.j1]) ?_
      have key : ∀ (d : Nat) (i : Int) (c : List S36), 0 ≤ i → (c.length : Int) - i = d → c.length ≤ 4096 → Ev (fun k => retargetlaw19_InterpretStores.l0 k l l c true i) true := by
        intro d
        induction d with
        | zero =>
          intro i c h0 hd hcl
          refine Ev.step (fun k => by rw [retargetlaw19_InterpretStores.l0]) (ev_neg (by omega) (ev_pos rfl ?_))
          have := ev_sameCells l l (by omega)
          rw [cellsB_self] at this
          exact Ev.bind this (ev_now rfl)
        | succ d ih =>
          intro i c h0 hd hcl
          refine Ev.step (fun k => by rw [retargetlaw19_InterpretStores.l0]) (ev_pos (by omega) (ev_pos h0 ?_))
          rw [wrap_id (n := i + 1) (by omega) (by omega)]
          exact ih (i + 1) _ (by omega) (by rw [List.length_set]; omega) (by rw [List.length_set]; exact hcl)
      exact key res.1.length 0 res.1 (by omega) (by omega) hr
end Go.Proofs.Ytpogkinegkfokaa.Pure
