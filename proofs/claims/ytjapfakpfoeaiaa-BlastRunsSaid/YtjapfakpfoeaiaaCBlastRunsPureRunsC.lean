/- BlastRuns over lists and numbers, third part: the search by halves and the search in a row meet the same binding, and both texts' Inputs come to the same list of Bools. No condition. -/
import Derived.Test.YtjapfakpfoeaiaaCBlastRunsPureRunsB
import Derived.Laws.BitsAllLaws
set_option linter.unusedVariables false
namespace Go.Proofs.Ytjapfakpfoeaiaa.PureA
open Go.RowKit Go.Proofs.Ytjapfakpfoeaiaa.MBlastRuns Go.Proofs.YtjapfakpfoeaiaaW.PrintWords Go.Proofs.YtjapfakpfoeaiaaW.PrintLast Go.Proofs.YtjapfakpfoeaiaaW.PrintMore Go.Proofs.Ytjapfakpfoeaiaa.Evl Go.Proofs.Ytjapfakpfoeaiaa.PureB
open Classical

theorem cmp_spec : ∀ x y : List UInt8, (Lib.compareBytes x y < 0 ↔ x < y) ∧ (Lib.compareBytes x y = 0 ↔ x = y)
  | [], [] => by simp [Lib.compareBytes]
  | [], _ :: _ => by simp [Lib.compareBytes]
  | _ :: _, [] => by simp [Lib.compareBytes]
  | a :: x, b :: y => by
    have ih := cmp_spec x y
    rw [Lib.compareBytes]
    by_cases h : a < b
    · have hne : a ≠ b := fun e => by subst e; exact absurd h (by simp)
      simp [h, hne, List.cons_lt_cons_iff]
    · by_cases h2 : b < a
      · have hne : a ≠ b := fun e => by subst e; exact absurd h2 (by simp)
        simp [h, h2, hne, List.cons_lt_cons_iff]
      · have he : a = b := by
          apply UInt8.toNat_inj.1
          have h3 : ¬ a.toNat < b.toNat := fun q => h (UInt8.lt_iff_toNat_lt.2 q)
          have h4 : ¬ b.toNat < a.toNat := fun q => h2 (UInt8.lt_iff_toNat_lt.2 q)
          omega
        subst he
        simp only [h, if_false, List.cons_lt_cons_iff, true_and, false_or, List.cons.injEq]
        exact ih
/-- The name at place i. -/
def nm (l : List S59) (i : Int) : List UInt8 := (rd_T59 l i).f0.toList
theorem chkB_zero {l : List S59} (h : chkB l = 0) : l.length ≤ 1000 ∧ ∀ j : Int, 0 ≤ j → j < l.length → boundOk l j := by
  unfold chkB at h
  split at h
  · cases h
  · split at h
    · rename_i h1 h2
      exact ⟨by omega, h2⟩
    · cases h
theorem sorted {l : List S59} (h : ∀ j : Int, 0 ≤ j → j < l.length → boundOk l j) : ∀ (d : Nat) (i : Int), 0 ≤ i → i + 1 + d < l.length → nm l i < nm l (i + 1 + d) := by
  intro d
  induction d with
  | zero =>
    intro i h0 h1
    have := (h (i + 1) (by omega) (by omega)).2.2 (by omega)
    rw [show i + 1 - 1 = i by omega, bytesLess_eq, decide_eq_true_eq] at this
    rw [show i + 1 + ((0 : Nat) : Int) = i + 1 by omega]
    exact this
  | succ d ih =>
    intro i h0 h1
    have a := ih i h0 (by omega)
    have b := (h (i + 1 + (d + 1 : Nat)) (by omega) (by omega)).2.2 (by omega)
    rw [show i + 1 + ((d + 1 : Nat) : Int) - 1 = i + 1 + d by omega, bytesLess_eq, decide_eq_true_eq] at b
    exact List.lt_trans a b
theorem sorted' {l : List S59} (h : ∀ j : Int, 0 ≤ j → j < l.length → boundOk l j) {i j : Int} (h0 : 0 ≤ i) (h1 : i < j) (h2 : j < l.length) : nm l i < nm l j := by
  have := sorted h (j - i - 1).toNat i h0 (by omega)
  rwa [show i + 1 + ((j - i - 1).toNat : Int) = j by omega] at this

theorem mid_eq {x y : Int} (h0 : 0 ≤ x) (h1 : x ≤ y) (h2 : y ≤ 1000) : wrap64 ((IntKind.u64.wrap (wrap64 (x + y))) / 2) = (x + y) / 2 := by
  rw [wrap_id (n := x + y) (by omega) (by omega), IntKind.wrap_u64, Int.emod_eq_of_lt (by omega) (by omega), wrap_id (by omega) (by omega)]

theorem ev_search (l : List S59) (t : ByteArray) (hl : l.length ≤ 1000) (h : ∀ j : Int, 0 ≤ j → j < l.length → boundOk l j) : ∀ (d : Nat) (x y : Int), (y - x).toNat = d → 0 ≤ x → x ≤ y → y ≤ l.length →
    (∀ j : Int, 0 ≤ j → j < x → nm l j < t.toList) → (∀ j : Int, y ≤ j → j < l.length → ¬ nm l j < t.toList) →
    ∃ (i : Int) (f : Bool), Ev (fun k => api_Binding_string.l0 k l t (l.length : Int) x y) (i, f) ∧ 0 ≤ i ∧ i ≤ l.length ∧ ((f = true ∧ i < l.length ∧ nm l i = t.toList) ∨ (f = false ∧ ∀ j : Int, 0 ≤ j → j < l.length → nm l j ≠ t.toList)) := by
  have hc : ∀ a b c' : Int, ∀ s : ByteArray, blast_Inputs_1.f s a b t = some (Lib.compareBytes s.toList t.toList) := fun a b c' s => by
    unfold blast_Inputs_1.f strings_Compare.f
    rw [ByteArray.toList_eq s, ByteArray.toList_eq t]
    rfl
  intro d
  induction d using Nat.strongRecOn with
  | _ d ih =>
    intro x y hd hx hxy hy hlo hhi
    by_cases hlt : x < y
    · have hm := mid_eq hx hxy (by omega : y ≤ 1000)
      by_cases hcmp : nm l ((x + y) / 2) < t.toList
      · obtain ⟨i, f, hev, hr⟩ := ih (y - ((x + y) / 2 + 1)).toNat (by omega) ((x + y) / 2 + 1) y rfl (by omega) (by omega) hy (fun j j0 j1 => by
          rcases Int.lt_or_eq_of_le (show j ≤ (x + y) / 2 by omega) with q | q
          · exact List.lt_trans (sorted' h j0 q (by omega)) hcmp
          · exact q ▸ hcmp) hhi
        refine ⟨i, f, ?_, hr⟩
        refine Ev.step (fun k => by rw [api_Binding_string.l0]) ?_
        rw [hm]
        refine ev_pos hlt (ev_pos (by omega) (ev_pos (by omega) (ev_bindc (hc _ _ 0 _) ?_)))
        refine ev_pos ((cmp_spec _ _).1.2 hcmp) ?_
        rw [wrap_id (n := (x + y) / 2 + 1) (by omega) (by omega)]
        exact hev
      · obtain ⟨i, f, hev, hr⟩ := ih ((x + y) / 2 - x).toNat (by omega) x ((x + y) / 2) rfl hx (by omega) (by omega) hlo (fun j j0 j1 q => by
          rcases Int.lt_or_eq_of_le j0 with p | p
          · exact hcmp (List.lt_trans (sorted' h (by omega) p j1) q)
          · exact hcmp (p ▸ q))
        refine ⟨i, f, ?_, hr⟩
        refine Ev.step (fun k => by rw [api_Binding_string.l0]) ?_
        rw [hm]
        refine ev_pos hlt (ev_pos (by omega) (ev_pos (by omega) (ev_bindc (hc _ _ 0 _) ?_)))
        exact ev_neg (fun q => hcmp ((cmp_spec _ _).1.1 q)) hev
    · obtain rfl : x = y := by omega
      by_cases hn : x < l.length
      · by_cases he : nm l x = t.toList
        · refine ⟨x, true, ?_, hx, by omega, Or.inl ⟨rfl, hn, he⟩⟩
          refine Ev.step (fun k => by rw [api_Binding_string.l0]) ?_
          refine ev_neg hlt (ev_pos hn (ev_pos hx (ev_pos hn (ev_bindc (hc _ _ 0 _) (ev_now ?_)))))
          rw [show Lib.compareBytes (rd_T59 l x).f0.toList t.toList = 0 from (cmp_spec _ _).2.2 he]
          rfl
        · refine ⟨x, false, ?_, hx, by omega, Or.inr ⟨rfl, fun j j0 j1 q => ?_⟩⟩
          · refine Ev.step (fun k => by rw [api_Binding_string.l0]) ?_
            refine ev_neg hlt (ev_pos hn (ev_pos hx (ev_pos hn (ev_bindc (hc _ _ 0 _) (ev_now ?_)))))
            have : (Lib.compareBytes (rd_T59 l x).f0.toList t.toList == 0) = false := by
              rw [beq_eq_false_iff_ne]
              exact fun q => he ((cmp_spec _ _).2.1 q)
            rw [this]
          · rcases Int.lt_trichotomy j x with p | p | p
            · have := hlo j j0 p
              rw [q] at this
              exact List.lt_irrefl _ this
            · exact he (p ▸ q)
            · have := sorted' h hx p j1
              rw [q] at this
              exact hhi x (Int.le_refl _) hn this
      · refine ⟨x, false, ?_, hx, by omega, Or.inr ⟨rfl, fun j j0 j1 q => ?_⟩⟩
        · refine Ev.step (fun k => by rw [api_Binding_string.l0]) ?_
          exact ev_neg hlt (ev_neg hn (ev_now rfl))
        · have := hlo j j0 (by omega)
          rw [q] at this
          exact List.lt_irrefl _ this

theorem ev_boundFound (l : List S59) (t : ByteArray) (hl : l.length ≤ 1000) (h : ∀ j : Int, 0 ≤ j → j < l.length → boundOk l j) (i : Int) (h0 : 0 ≤ i) (h1 : i < l.length) (he : nm l i = t.toList) :
    Ev (fun k => retargetref02_Bound.f k l t) ((rd_T59 l i).f0, (rd_T59 l i).f1, (rd_T59 l i).f2, true) := by
  unfold retargetref02_Bound.f
  refine ev_loop (g := fun k j => retargetref02_Bound.l0 k l t j) i (fun _ => ((rd_T59 l i).f0, (rd_T59 l i).f1, (rd_T59 l i).f2, true)) ?_ ?_ 0 (by omega) (by omega)
  · intro j j0 j1 ih
    refine Ev.step (fun k => by rw [retargetref02_Bound.l0]) ?_
    refine ev_pos (by omega) (ev_pos j0 (ev_neg (fun q => ?_) ?_))
    · have := sorted' h j0 j1 h1
      rw [he, show nm l j = t.toList from q] at this
      exact List.lt_irrefl _ this
    · rw [wrap_id (n := j + 1) (by omega) (by omega)]
      exact ih
  · refine Ev.step (fun k => by rw [retargetref02_Bound.l0]) ?_
    exact ev_pos h1 (ev_pos h0 (ev_pos he (ev_now rfl)))
theorem ev_boundNone (l : List S59) (t : ByteArray) (hl : l.length ≤ 1000) (hn : ∀ j : Int, 0 ≤ j → j < l.length → nm l j ≠ t.toList) :
    Ev (fun k => retargetref02_Bound.f k l t) ((⟨#[]⟩ : ByteArray), (0 : Int), (0 : Int), false) := by
  unfold retargetref02_Bound.f
  refine ev_loop (g := fun k j => retargetref02_Bound.l0 k l t j) (l.length : Int) (fun _ => ((⟨#[]⟩ : ByteArray), (0 : Int), (0 : Int), false)) ?_ ?_ 0 (by omega) (by omega)
  · intro j j0 j1 ih
    refine Ev.step (fun k => by rw [retargetref02_Bound.l0]) ?_
    refine ev_pos j1 (ev_pos j0 (ev_neg (fun q => hn j j0 j1 q) ?_))
    rw [wrap_id (n := j + 1) (by omega) (by omega)]
    exact ih
  · refine Ev.step (fun k => by rw [retargetref02_Bound.l0]) ?_
    exact ev_neg (by omega) (ev_now rfl)

theorem and_one (x : Int) (h0 : 0 ≤ x) (h1 : x < 18446744073709551616) : Go.bits .and .u64 x 1 = x % 2 :=
  bits_mask .u64 64 (by decide) (fun n a b => by rw [IntKind.wrap_u64]; omega) 1 (by decide) x h0 h1
/-- Halving n times. -/
theorem ev_halve (l : List S59) (acc : List Bool) (i : Int) (a : List S52) (b : List S54) (c : List Int) (x : Int) (h0 : 0 ≤ i) (h1 : i < a.length) (x0 : 0 ≤ x) (x1 : x < 18446744073709551616) (f0 : 0 ≤ (rd_T52 a i).f1) (f1 : (rd_T52 a i).f1 < 64) (hacc : acc.length < 140737488355328) (r : List Bool × Int)
    (hr : Ev (fun k => retargetref04_Inputs.l0 k l (acc ++ [Int.tmod (x / 2 ^ (rd_T52 a i).f1.toNat) 2 == 1]) (wrap64 (i + 1)) a b c) r) :
    Ev (fun k => retargetref04_Inputs.l1 k l acc i x 0 a b c) r := by
  have key : ∀ (d : Nat) (n : Nat), (rd_T52 a i).f1.toNat - n = d → n ≤ (rd_T52 a i).f1.toNat → Ev (fun k => retargetref04_Inputs.l1 k l acc i (x / 2 ^ n) (n : Int) a b c) r := by
    intro d
    induction d with
    | zero =>
      intro n hd hn
      obtain rfl : n = (rd_T52 a i).f1.toNat := by omega
      refine Ev.step (fun k => by rw [retargetref04_Inputs.l1]) ?_
      exact ev_pos h0 (ev_pos h1 (ev_neg (by omega) (ev_pos hacc hr)))
    | succ d ih =>
      intro n hd hn
      refine Ev.step (fun k => by rw [retargetref04_Inputs.l1]) ?_
      refine ev_pos h0 (ev_pos h1 (ev_pos (by omega) ?_))
      have p0 : 0 ≤ x / 2 ^ n := Int.ediv_nonneg x0 (Int.le_of_lt (Int.pow_pos (by decide)))
      have p1 : x / 2 ^ n ≤ x := Int.ediv_le_self _ x0
      have e : IntKind.u64.wrap (Int.tdiv (x / 2 ^ n) 2) = x / 2 ^ (n + 1) := by
        rw [Int.tdiv_eq_ediv_of_nonneg p0, IntKind.wrap_u64, Int.emod_eq_of_lt (by omega) (by omega), Int.ediv_ediv_of_nonneg (Int.le_of_lt (Int.pow_pos (by decide))), Int.pow_succ]
      rw [e, wrap_id (n := (n : Int) + 1) (by omega) (by omega)]
      exact ih (n + 1) (by omega) (by omega)
  have := key _ 0 rfl (by omega)
  simpa using this

theorem inputs (a : List S52) (b : List S54) (c : List Int) (l : List S59) (ha : ∀ x ∈ a, x.f0.size ≤ 140737488351232) (hs : ∀ x ∈ l, x.f0.size ≤ 140737488351232) (hv : ∀ x ∈ l, 0 ≤ x.f2 ∧ x.f2 < 18446744073709551616) :
    ∃ r : List Bool × Int, Ev (fun k => blast_Inputs.f k a b c l) r ∧ Ev (fun k => retargetref04_Inputs.f k a b c l) r ∧ r.1.length ≤ 600 := by
  unfold blast_Inputs.f retargetref04_Inputs.f
  by_cases h : chk a b c = 0
  · by_cases hb : chkB l = 0
    · obtain ⟨⟨la, lb, lc⟩, hin, hgate, hout⟩ := chk_zero h
      obtain ⟨hl, hok⟩ := chkB_zero hb
      have key : ∀ (d : Nat) (i : Nat) (acc : List Bool), a.length - i = d → i ≤ a.length → acc.length = i →
          ∃ r : List Bool × Int, Ev (fun k => blast_Inputs.l0 k l acc a (a.length : Int) (i : Int)) r ∧ Ev (fun k => retargetref04_Inputs.l0 k l acc (i : Int) a b c) r ∧ r.1.length ≤ 600 := by
        intro d
        induction d with
        | zero =>
          intro i acc hd hi hacc
          refine ⟨(acc, 0), ?_, ?_, by simp; omega⟩
          · refine Ev.step (fun k => by rw [blast_Inputs.l0]) ?_
            exact ev_neg (by omega) (ev_now rfl)
          · refine Ev.step (fun k => by rw [retargetref04_Inputs.l0]) ?_
            exact ev_neg (by omega) (ev_now rfl)
        | succ d ih =>
          intro i acc hd hi hacc
          have i0 : 0 ≤ (i : Int) := by omega
          have i1 : (i : Int) < (a.length : Int) := by omega
          have hal : acc.length < 140737488355328 := by omega
          have g1 : a.length - (i + 1) = d := by omega
          have g2 : i + 1 ≤ a.length := by omega
          have ew : wrap64 ((i : Int) + 1) = ((i + 1 : Nat) : Int) := by rw [wrap_id (by omega) (by omega)]; omega
          obtain ⟨_, f0, f1, _⟩ := hin i (by omega) (by omega)
          obtain ⟨j, f, hev, j0, j1, hres⟩ := ev_search l (rd_T52 a i).f0 hl hok _ 0 (l.length : Int) rfl (by omega) (by omega) (by omega) (fun q q0 q1 => by omega) (fun q q0 q1 => by omega)
          have hev' : Ev (fun k => api_Binding_string.f k l (rd_T52 a i).f0) (j, f) := hev
          rcases hres with ⟨rfl, jl, hname⟩ | ⟨rfl, hnone⟩
          · have hbd := ev_boundFound l (rd_T52 a i).f0 hl hok j j0 jl hname
            by_cases hw : (rd_T52 a i).f1 ≥ (rd_T59 l j).f1
            · refine ⟨([], 2), ?_, ?_, by simp⟩
              · refine Ev.step (fun k => by rw [blast_Inputs.l0]) ?_
                refine ev_pos (by omega) (ev_pos (by omega) (ev_pos (by omega) (Ev.bind hev' ?_)))
                exact ev_pos rfl (ev_pos j0 (ev_pos jl (ev_pos hw (ev_now rfl))))
              · refine Ev.step (fun k => by rw [retargetref04_Inputs.l0]) ?_
                refine ev_pos (by omega) (ev_pos (by omega) (Ev.bind hbd ?_))
                exact ev_pos rfl (ev_pos hw (ev_now rfl))
            · obtain ⟨v0, v1⟩ := hv _ (rd59_mem j0 jl)
              have p0 : 0 ≤ (rd_T59 l j).f2 / 2 ^ (rd_T52 a i).f1.toNat := Int.ediv_nonneg v0 (Int.le_of_lt (Int.pow_pos (by decide)))
              have p1 : (rd_T59 l j).f2 / 2 ^ (rd_T52 a i).f1.toNat ≤ (rd_T59 l j).f2 := Int.ediv_le_self _ v0
              have hbit : (Go.bits .and .u64 (shr .u64 ((rd_T59 l j).f2) ((rd_T52 a i).f1)) 1 == 1) = (Int.tmod ((rd_T59 l j).f2 / 2 ^ (rd_T52 a i).f1.toNat) 2 == 1) := by
                unfold shr
                rw [Nat.min_eq_left (by show _ ≤ 64; omega), and_one _ p0 (Int.lt_of_le_of_lt p1 v1), Int.tmod_eq_emod_of_nonneg p0]
              obtain ⟨r, r1, r2, r3⟩ := ih (i + 1) (acc ++ [Int.tmod ((rd_T59 l j).f2 / 2 ^ (rd_T52 a i).f1.toNat) 2 == 1]) g1 g2 (by simp [hacc])
              refine ⟨r, ?_, ?_, r3⟩
              · refine Ev.step (fun k => by rw [blast_Inputs.l0]) ?_
                refine ev_pos i1 (ev_pos i0 (ev_pos i1 (Ev.bind hev' ?_)))
                refine ev_pos rfl (ev_pos j0 (ev_pos jl (ev_neg hw (ev_pos f0 (ev_pos hal ?_)))))
                rw [hbit, ew]
                exact r1
              · refine Ev.step (fun k => by rw [retargetref04_Inputs.l0]) ?_
                refine ev_pos i1 (ev_pos i0 (Ev.bind hbd ?_))
                refine ev_pos rfl (ev_neg hw ?_)
                refine ev_halve l acc i a b c _ i0 i1 v0 v1 f0 f1 hal r ?_
                rw [ew]
                exact r2
          · have hbd := ev_boundNone l (rd_T52 a i).f0 hl hnone
            refine ⟨([], 16), ?_, ?_, by simp⟩
            · refine Ev.step (fun k => by rw [blast_Inputs.l0]) ?_
              refine ev_pos (by omega) (ev_pos (by omega) (ev_pos (by omega) (Ev.bind hev' ?_)))
              exact ev_neg (fun q => by cases q) (ev_now rfl)
            · refine Ev.step (fun k => by rw [retargetref04_Inputs.l0]) ?_
              refine ev_pos (by omega) (ev_pos (by omega) (Ev.bind hbd ?_))
              exact ev_neg (fun q => by cases q) (ev_now rfl)
      obtain ⟨r, r1, r2, r3⟩ := key a.length 0 [] (by omega) (by omega) rfl
      refine ⟨r, ?_, ?_, r3⟩
      · exact Ev.bind (ev_check a b c ha) (ev_pos h (Ev.bind (ev_checkBound l hs) (ev_pos hb r1)))
      · exact Ev.bind (ev_refCheck a b c ha) (ev_pos h (Ev.bind (ev_refCheckBound l hs (fun x hx => (hv x hx).2)) (ev_pos hb r2)))
    · have h8 : chkB l = 8 := by
        unfold chkB at hb ⊢
        split <;> rename_i q1
        · rfl
        · rw [if_neg q1] at hb
          split <;> rename_i q2
          · rw [if_pos q2] at hb
            exact absurd rfl hb
          · rfl
      refine ⟨([], 8), ?_, ?_, by simp⟩
      · refine Ev.bind (ev_check a b c ha) (ev_pos h (Ev.bind (ev_checkBound l hs) (ev_neg hb (ev_now ?_))))
        rw [h8]
      · exact Ev.bind (ev_refCheck a b c ha) (ev_pos h (Ev.bind (ev_refCheckBound l hs (fun x hx => (hv x hx).2)) (ev_neg hb (ev_now rfl))))
  · refine ⟨([], chk a b c), ?_, ?_, by simp⟩
    · exact Ev.bind (ev_check a b c ha) (ev_neg h (ev_now rfl))
    · exact Ev.bind (ev_refCheck a b c ha) (ev_neg h (Ev.bind (ev_refCheck a b c ha) (ev_now rfl)))
end Go.Proofs.Ytjapfakpfoeaiaa.PureA
