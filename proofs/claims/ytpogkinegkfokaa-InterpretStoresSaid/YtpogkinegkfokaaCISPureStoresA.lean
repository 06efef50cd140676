/- InterpretStores over lists and numbers, first part: what is searched, put and taken out in an ordered list of cells. No condition. -/
import Derived.Test.YtpogkinegkfokaaCISEvl
import Derived.Test.YtpogkinegkfokaaCISMInterpretStoresx
set_option linter.unusedVariables false
namespace Go.Proofs.Ytpogkinegkfokaa.PureA
open Go.RowKit Go.Proofs.Ytpogkinegkfokaa.MInterpretStores Go.Proofs.YtpogkinegkfokaaW.PrintWords Go.Proofs.YtpogkinegkfokaaW.PrintLast Go.Proofs.YtpogkinegkfokaaW.PrintMore Go.Proofs.Ytpogkinegkfokaa.Evl

def Srt (l : List S36) : Prop := l.Pairwise (fun a b => a.f0 < b.f0)

theorem rd_at (l : List S36) (i : Int) (h : i.toNat < l.length) : rd_T36 l i = l[i.toNat] := by
  unfold rd_T36
  rw [List.getD_eq_getElem?_getD, List.getElem?_eq_getElem h, Option.getD_some]
theorem rd_lo (p q : List S36) (a : Int) (hp : ∀ x ∈ p, x.f0 < a) (i : Int) (h0 : 0 ≤ i) (h1 : i < p.length) : (rd_T36 (p ++ q) i).f0 < a := by
  rw [rd_at _ _ (by rw [List.length_append]; omega), List.getElem_append_left (by omega)]
  exact hp _ (List.getElem_mem _)
theorem rd_hi (p q : List S36) (a : Int) (hq : ∀ x ∈ q, a ≤ x.f0) (i : Int) (h0 : (p.length : Int) ≤ i) (h1 : i < (p ++ q).length) : a ≤ (rd_T36 (p ++ q) i).f0 := by
  rw [List.length_append] at h1
  rw [rd_at _ _ (by rw [List.length_append]; omega), List.getElem_append_right (by omega)]
  exact hq _ (List.getElem_mem _)
theorem rd_mid (p r : List S36) (y : S36) : rd_T36 (p ++ y :: r) (p.length : Int) = y := by
  rw [rd_at _ _ (by simp)]
  simp

/-- An ordered list at a number: those below it, perhaps one at it, those above it. -/
theorem split_at : ∀ (l : List S36) (a : Int), Srt l → (∃ p r, l = p ++ r ∧ (∀ x ∈ p, x.f0 < a) ∧ (∀ x ∈ r, a < x.f0)) ∨ (∃ p y r, l = p ++ y :: r ∧ y.f0 = a ∧ (∀ x ∈ p, x.f0 < a) ∧ (∀ x ∈ r, a < x.f0))
  | [], a, _ => .inl ⟨[], [], rfl, by simp, by simp⟩
  | x :: l, a, h => by
    obtain ⟨hx, hl⟩ := List.pairwise_cons.1 h
    by_cases h1 : x.f0 < a
    · rcases split_at l a hl with ⟨p, r, rfl, hp, hr⟩ | ⟨p, y, r, rfl, hy, hp, hr⟩
      · exact .inl ⟨x :: p, r, rfl, fun z hz => by rcases List.mem_cons.1 hz with rfl | hz; exact h1; exact hp z hz, hr⟩
      · exact .inr ⟨x :: p, y, r, rfl, hy, fun z hz => by rcases List.mem_cons.1 hz with rfl | hz; exact h1; exact hp z hz, hr⟩
    · by_cases h2 : x.f0 = a
      · exact .inr ⟨[], x, l, rfl, h2, by simp, fun z hz => by have := hx z hz; omega⟩
      · exact .inl ⟨[], x :: l, rfl, by simp, fun z hz => by
          rcases List.mem_cons.1 hz with rfl | hz
          · omega
          · have := hx z hz; omega⟩
/-- With something new between, or nothing, it is ordered again. -/
theorem srt_new {l p r n : List S36} {a : Int} (h : Srt l) (hl : ∃ m, l = p ++ m ++ r) (hp : ∀ x ∈ p, x.f0 < a) (hr : ∀ x ∈ r, a < x.f0) (hn : n = [] ∨ ∃ z, n = [z] ∧ z.f0 = a) : Srt (p ++ n ++ r) := by
  obtain ⟨m, rfl⟩ := hl
  unfold Srt at h ⊢
  rw [List.pairwise_append, List.pairwise_append] at h
  obtain ⟨⟨h1, h2, h3⟩, h4, h5⟩ := h
  rw [List.pairwise_append, List.pairwise_append]
  rcases hn with rfl | ⟨z, rfl, hz⟩
  · refine ⟨⟨h1, List.Pairwise.nil, fun x hx y hy => by cases hy⟩, h4, fun x hx y hy => ?_⟩
    have := hr y hy
    have := hp x (by simpa using hx)
    omega
  · refine ⟨⟨h1, by simp, fun x hx y hy => ?_⟩, h4, fun x hx y hy => ?_⟩
    · have := hp x hx
      rw [List.mem_singleton.1 hy]
      omega
    · have h6 := hr y hy
      rcases List.mem_append.1 hx with hx | hx
      · have := hp x hx
        omega
      · rw [List.mem_singleton.1 hx]
        omega

/-- The search by halves meets the place. -/
theorem ev_search (p q : List S36) (a : Int) (ans : Bool) (hp : ∀ x ∈ p, x.f0 < a) (hq : ∀ x ∈ q, a ≤ x.f0) (hl : (p ++ q).length ≤ 1000000) (hans : (p.length : Int) < (p ++ q).length → ((rd_T36 (p ++ q) (p.length : Int)).f0 == a) = ans) (hend : ¬ (p.length : Int) < (p ++ q).length → ans = false) :
    Ev (fun k => api_Cell_uint64.f k (p ++ q) a) ((p.length : Int), ans) := by
  unfold api_Cell_uint64.f
  have hle : (p.length : Int) ≤ (p ++ q).length := by rw [List.length_append]; omega
  have key : ∀ (d : Nat) (lo hi : Int), 0 ≤ lo → lo ≤ p.length → (p.length : Int) ≤ hi → hi ≤ (p ++ q).length → hi - lo ≤ d → Ev (fun k => api_Cell_uint64.l0 k (p ++ q) a ((p ++ q).length : Int) lo hi) ((p.length : Int), ans) := by
    intro d
    induction d with
    | zero =>
      intro lo hi h0 h1 h2 h3 h4
      obtain rfl : lo = p.length := by omega
      obtain rfl : hi = p.length := by omega
      refine Ev.step (fun k => by rw [api_Cell_uint64.l0]) (ev_neg (by omega) ?_)
      refine ev_if (fun h => ?_) (fun h => ?_)
      · refine ev_pos h0 (ev_pos h ?_)
        have ha := hans h
        have hge := rd_hi p q a hq (p.length : Int) (Int.le_refl _) h
        unfold interpret_Store_1.f
        rw [if_neg (by omega)]
        by_cases hgt : (rd_T36 (p ++ q) (p.length : Int)).f0 > a
        · rw [if_pos hgt]
          refine ev_some (ev_now ?_)
          have : ((rd_T36 (p ++ q) (p.length : Int)).f0 == a) = false := by simp; omega
          rw [← ha, this]
          rfl
        · rw [if_neg hgt]
          refine ev_some (ev_now ?_)
          have : ((rd_T36 (p ++ q) (p.length : Int)).f0 == a) = true := by simp; omega
          rw [← ha, this]
          rfl
      · rw [hend h]
        exact ev_now rfl
    | succ d ih =>
      intro lo hi h0 h1 h2 h3 h4
      by_cases hlh : lo < hi
      · have hm : wrap64 (IntKind.u64.wrap (wrap64 (lo + hi)) / 2) = (lo + hi) / 2 := by
          rw [wrap_id (n := lo + hi) (by omega) (by omega)]
          have e : IntKind.u64.wrap (lo + hi) = lo + hi := by
            simp [IntKind.wrap, IntKind.bits, IntKind.signed]
            omega
          rw [e, wrap_id (by omega) (by omega)]
        refine Ev.step (fun k => by rw [api_Cell_uint64.l0]) (ev_pos hlh ?_)
        rw [hm]
        refine ev_pos (by omega) (ev_pos (by omega) ?_)
        unfold interpret_Store_1.f
        by_cases hc : (lo + hi) / 2 < (p.length : Int)
        · have hlt := rd_lo p q a hp ((lo + hi) / 2) (by omega) hc
          rw [if_pos hlt]
          refine ev_some (ev_pos (by omega) ?_)
          rw [wrap_id (n := (lo + hi) / 2 + 1) (by omega) (by omega)]
          exact ih _ _ (by omega) (by omega) h2 h3 (by omega)
        · have hge := rd_hi p q a hq ((lo + hi) / 2) (by omega) (by omega)
          rw [if_neg (by omega)]
          by_cases hgt : (rd_T36 (p ++ q) ((lo + hi) / 2)).f0 > a
          · rw [if_pos hgt]
            exact ev_some (ev_neg (by omega) (ih _ _ h0 h1 (by omega) (by omega) (by omega)))
          · rw [if_neg hgt]
            exact ev_some (ev_neg (by omega) (ih _ _ h0 h1 (by omega) (by omega) (by omega)))
      · have := ih lo hi h0 h1 h2 h3 (by omega)
        exact this
  exact key ((p ++ q).length) 0 _ (by omega) (by omega) hle (Int.le_refl _) (by omega)

/-- The reference's put. -/
theorem ev_put (p m r : List S36) (a b : Int) (hp : ∀ x ∈ p, x.f0 < a) (hm : ∀ x ∈ m, x.f0 = a) (hr : ∀ x ∈ r, a < x.f0) (hl : (p ++ (m ++ r)).length ≤ 1000000) :
    Ev (fun k => retargetref19_put.f k (p ++ (m ++ r)) a b) (p ++ (if b = 0 then [] else [⟨a, b⟩]) ++ r) := by
  unfold retargetref19_put.f
  have hq : ∀ x ∈ m ++ r, a ≤ x.f0 := fun x hx => by
    rcases List.mem_append.1 hx with hx | hx
    · have := hm x hx; omega
    · have := hr x hx; omega
  have hfil : (p ++ (m ++ r)).filter (fun x => decide (a < x.f0)) = r := by
    rw [List.filter_append, List.filter_append, List.filter_eq_nil_iff.2 (fun x hx => by have := hp x hx; simp; omega), List.filter_eq_nil_iff.2 (fun x hx => by have := hm x hx; simp; omega), List.filter_eq_self.2 (fun x hx => by simpa using hr x hx)]
    rfl
  obtain ⟨l, hle⟩ : ∃ l, l = p ++ (m ++ r) := ⟨_, rfl⟩
  have hpl : (p.length : Int) ≤ l.length := by rw [hle, List.length_append]; omega
  have tail : ∀ acc : List S36, acc.length ≤ 1000001 → Ev (fun k => retargetref19_put.j2 k l a acc) (acc ++ r) := by
    intro acc hacc
    refine Ev.step (fun k => by rw [retargetref19_put.j2]) ?_
    have h := ev_loop (g := fun k i => retargetref19_put.l1 k l a (acc ++ (l.take i.toNat).filter (fun x => decide (a < x.f0))) i) (l.length : Int) (fun _ => acc ++ r) ?_ ?_ 0 (by omega) (by omega)
    · simpa using h
    · intro i h0 h1 ih
      have ht : l.take (i + 1).toNat = l.take i.toNat ++ [rd_T36 l i] := by
        rw [show (i + 1).toNat = i.toNat + 1 by omega, List.take_succ_eq_append_getElem (by omega), rd_at l i (by omega)]
      have hf : ((l.take i.toNat).filter (fun x => decide (a < x.f0))).length ≤ 1000000 := Nat.le_trans (List.length_filter_le _ _) (Nat.le_trans (List.length_take_le' _ _) (by rw [hle]; exact hl))
      refine Ev.step (fun k => by rw [retargetref19_put.l1]) (ev_pos h1 (ev_pos h0 ?_))
      rw [wrap_id (n := i + 1) (by omega) (by rw [hle] at h1; omega)]
      refine ev_if (fun hg => ?_) (fun hg => ?_)
      · refine ev_pos (by rw [List.length_append]; omega) ?_
        rw [ht, List.filter_append] at ih
        rw [List.append_assoc]
        have e : [rd_T36 l i].filter (fun x => decide (a < x.f0)) = [⟨(rd_T36 l i).f0, (rd_T36 l i).f1⟩] := by
          rw [List.filter_cons_of_pos (by simpa using hg)]
          rfl
        rw [e] at ih
        exact ih
      · rw [ht, List.filter_append] at ih
        have e : [rd_T36 l i].filter (fun x => decide (a < x.f0)) = [] := by
          rw [List.filter_cons_of_neg (by simpa using hg)]
          rfl
        rw [e, List.append_nil] at ih
        exact ih
    · refine Ev.step (fun k => by rw [retargetref19_put.l1]) (ev_neg (by omega) (ev_now ?_))
      rw [show ((l.length : Int)).toNat = l.length by omega, List.take_length, hle, hfil]
  have mid : Ev (fun k => retargetref19_put.j1 k l a b p) (p ++ (if b = 0 then [] else [⟨a, b⟩]) ++ r) := by
    have hpl2 : p.length ≤ 1000000 := by rw [List.length_append] at hl; omega
    refine Ev.step (fun k => by rw [retargetref19_put.j1]) (ev_if (fun h => ?_) (fun h => ?_))
    · rw [if_pos h, List.append_nil]
      exact tail p (by omega)
    · rw [if_neg h]
      exact ev_pos (by omega) (tail _ (by simp; omega))
  rw [← hle]
  have h := ev_loop (g := fun k i => retargetref19_put.l0 k l a b (p.take i.toNat) i) (p.length : Int) (fun _ => p ++ (if b = 0 then [] else [⟨a, b⟩]) ++ r) ?_ ?_ 0 (by omega) (by omega)
  · simpa using h
  · intro i h0 h1 ih
    have hrd : rd_T36 l i = p[i.toNat] := by
      rw [rd_at l i (by omega)]
      subst hle
      rw [List.getElem_append_left (by omega)]
    have ht : p.take (i + 1).toNat = p.take i.toNat ++ [rd_T36 l i] := by
      rw [show (i + 1).toNat = i.toNat + 1 by omega, List.take_succ_eq_append_getElem (by omega), hrd]
    refine Ev.step (fun k => by rw [retargetref19_put.l0]) (ev_pos (by omega) (ev_pos h0 (ev_pos (by rw [hrd]; exact hp _ (List.getElem_mem _)) (ev_pos (by rw [List.length_take]; rw [List.length_append] at hl; omega) ?_))))
    rw [wrap_id (n := i + 1) (by omega) (by rw [List.length_append] at hl; omega)]
    rw [ht] at ih
    exact ih
  · rw [show ((p.length : Int)).toNat = p.length by omega, List.take_length]
    refine Ev.step (fun k => by rw [retargetref19_put.l0]) (ev_if (fun h => ev_pos (by omega) (ev_neg ?_ mid)) (fun h => mid))
    have := rd_hi p (m ++ r) a hq (p.length : Int) (Int.le_refl _) (by rw [← hle]; exact h)
    rw [hle]
    omega
end Go.Proofs.Ytpogkinegkfokaa.PureA
