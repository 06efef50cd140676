/- What maker.term computes, as a plain function: gates and literals. -/
import Derived.Test.YtjopdafckhkmmaaDoorCBSatHBSBinAnd
set_option linter.unusedVariables false
set_option linter.unusedSimpArgs false
namespace Go.Proofs.YtjopdafckhkmmaaDoor.MBS
open Go.Proofs.YtjopdafckhkmmaaDoor.Zed Go.RowKit Go.Proofs.YtjopdafckhkmmaaDoorW.PrintWords Go.Proofs.YtjopdafckhkmmaaDoorW.PrintLast Go.Proofs.YtjopdafckhkmmaaDoorW.PrintMore
/-- A node of a term by its parts' literals. -/
def pOp (n : Nat) (gs : List Gt) (x : Tm) (ls : List (List Int)) : List Gt × List Int :=
  if x.f0 = 8 then pEach (pAnd n) gs (ls.getD 0 []) (ls.getD 1 []) else (gs, [])
mutual
def pTerm (n : Nat) (atL : ByteArray → Int → Int) : List Gt → Tm → List Gt × List Int
  | gs, .mk k w b s lo l => if l = [] then (gs, pLeaf atL (.mk k w b s lo l)) else pOp n (pTermL n atL gs l).1 (.mk k w b s lo l) (pTermL n atL gs l).2
def pTermL (n : Nat) (atL : ByteArray → Int → Int) : List Gt → List Tm → List Gt × List (List Int)
  | gs, [] => (gs, [])
  | gs, x :: r => ((pTermL n atL (pTerm n atL gs x).1 r).1, (pTerm n atL gs x).2 :: (pTermL n atL (pTerm n atL gs x).1 r).2)
end
theorem pTerm_leaf (n : Nat) (atL : ByteArray → Int → Int) (gs : List Gt) (x : Tm) (h : x.f5 = []) : pTerm n atL gs x = (gs, pLeaf atL x) := by
  cases x with
  | mk k w b s lo l => rw [pTerm, if_pos h]
theorem pTerm_node (n : Nat) (atL : ByteArray → Int → Int) (gs : List Gt) (x : Tm) (h : x.f5 ≠ []) : pTerm n atL gs x = pOp n (pTermL n atL gs x.f5).1 x (pTermL n atL gs x.f5).2 := by
  cases x with
  | mk k w b s lo l => rw [pTerm, if_neg h]
theorem pTermL_snoc (n : Nat) (atL : ByteArray → Int → Int) : ∀ (l : List Tm) (gs : List Gt) (x : Tm), pTermL n atL gs (l ++ [x]) = ((pTerm n atL (pTermL n atL gs l).1 x).1, (pTermL n atL gs l).2 ++ [(pTerm n atL (pTermL n atL gs l).1 x).2])
  | [], gs, x => by simp [pTermL]
  | y :: l, gs, x => by simp only [List.cons_append, pTermL, pTermL_snoc n atL l]
/-- A node that may be drawn as a circuit. -/
def NB (x : Tm) : Prop :=
  1 ≤ x.f1 ∧ x.f1 ≤ 64 ∧ ((x.f5 = [] ∧ x.f3.size ≤ maxLen ∧ (Lit.int .u64 x.f2).wf = true) ∨
    (x.f0 = 8 ∧ ∃ a b, x.f5 = [a, b] ∧ a.f1 = x.f1 ∧ b.f1 = x.f1))
/-- What a node costs at most. -/
def costN (x : Tm) : Nat := if x.f5 = [] then 0 else if x.f0 = 8 then x.f1.toNat else 0
def cst (l : List Tm) : Nat := (l.map costN).sum
theorem cst_cons (x : Tm) (l : List Tm) : cst (x :: l) = costN x + cst l := by simp [cst]
theorem cst_append (a b : List Tm) : cst (a ++ b) = cst a + cst b := by simp [cst]
/-- The literals of the variables. -/
def AtOk (n : Nat) (atL : ByteArray → Int → Int) (l : List Tm) : Prop := ∀ y ∈ l, y.f5 = [] → y.f0 = 2 → ∀ i : Nat, (i : Int) < y.f1 → LitOk n [] (atL y.f3 i)
theorem pLeaf_ok {n : Nat} {atL : ByteArray → Int → Int} {x : Tm} {gs : List Gt} (hx : x.f0 = 2 → ∀ i : Nat, (i : Int) < x.f1 → LitOk n [] (atL x.f3 i)) : ∀ z ∈ pLeaf atL x, LitOk n gs z := by
  intro z hz
  obtain ⟨i, hi, rfl⟩ := List.mem_map.1 hz
  have hi' := List.mem_range.1 hi
  split
  · rename_i h2
    exact (hx h2 i q29_).mono (List.nil_prefix)
  · rcases bitOf_01 x.f2 i with h | h <;> rw [h]
    · exact .c0
    · exact .c1
theorem pOp_ok {n : Nat} {gs : List Gt} {x : Tm} {ls : List (List Int)} (hx : NB x) (h5 : x.f5 ≠ []) (hlen : ls.length = x.f5.length) (hl : ∀ i a, x.f5[i]? = some a → (ls.getD i []).length = a.f1.toNat) (hok : ∀ l ∈ ls, ∀ z ∈ l, LitOk n gs z) (hs : n + gs.length + costN x ≤ 1000000) :
    gs <+: (pOp n gs x ls).1 ∧ (pOp n gs x ls).1.length ≤ gs.length + costN x ∧ (pOp n gs x ls).2.length = x.f1.toNat ∧ ∀ z ∈ (pOp n gs x ls).2, LitOk n (pOp n gs x ls).1 z := by
  have hm : ∀ i, i < ls.length → ∀ z ∈ ls.getD i [], LitOk n gs z := fun i hi z hz => hok _ (by
    rw [List.getD_eq_getElem?_getD, List.getElem?_eq_getElem hi, Option.getD_some]
    exact List.getElem_mem hi) z hz
  obtain ⟨h1, h2, h3⟩ := hx
  rcases h3 with ⟨h3, _⟩ | ⟨h3, a, b, h4, h6, h7⟩
  · exact absurd h3 h5
  · rw [h4] at hlen hl
    have e0 : (ls.getD 0 []).length = x.f1.toNat := by rw [← h6]; exact hl 0 a rfl
    have e1 : (ls.getD 1 []).length = x.f1.toNat := by rw [← h7]; exact hl 1 b rfl
    simp only [List.length_cons, List.length_nil] at hlen
    have ec : costN x = x.f1.toNat := by rw [costN, if_neg h5, if_pos h3]
    rw [ec] at hs ⊢
    have := pEach_ok gs ((pAnd_ok n).from_ gs) (ls.getD 0 []) (ls.getD 1 []) gs (List.prefix_refl _) (by rw [e0, e1]) (hm 0 q29_) (hm 1 q29_) (by rw [e0]; omega)
    rw [e0, Nat.one_mul] at this
    rw [pOp, if_pos h3]
    exact this
theorem nd_mem_sub {x y z : Tm} (h : y ∈ x.f5) (hz : z ∈ nd y) : z ∈ nd x := by
  rw [nd_eq]
  obtain ⟨i, hi, rfl⟩ := List.getElem_of_mem h
  exact List.mem_cons_of_mem _ (ndL_mem x.f5 i hi z hz)
theorem pTerm_ok (n : Nat) (atL : ByteArray → Int → Int) : ∀ (k : Nat) (x : Tm) (gs : List Gt), (nd x).length ≤ k → (∀ y ∈ nd x, NB y) → AtOk n atL (nd x) → n + gs.length + cst (nd x) ≤ 1000000 →
    gs <+: (pTerm n atL gs x).1 ∧ (pTerm n atL gs x).1.length ≤ gs.length + cst (nd x) ∧ (pTerm n atL gs x).2.length = x.f1.toNat ∧ ∀ z ∈ (pTerm n atL gs x).2, LitOk n (pTerm n atL gs x).1 z := by
  intro k
  induction k with
  | zero => intro x gs hk; rw [nd_eq] at hk; simp at hk
  | succ k ih =>
    intro x gs hk hnb hat hs
    have hnx : NB x := hnb x (by rw [nd_eq]; simp)
    by_cases h5 : x.f5 = []
    · rw [pTerm_leaf n atL gs x h5]
      exact ⟨List.prefix_refl _, by simp, pLeaf_len atL x, pLeaf_ok (hat x (by rw [nd_eq]; simp) h5)⟩
    · rw [pTerm_node n atL gs x h5]
      have key : ∀ (l : List Tm) (gs : List Gt), (ndL l).length ≤ k → (∀ y ∈ ndL l, NB y) → AtOk n atL (ndL l) → n + gs.length + cst (ndL l) ≤ 1000000 →
          gs <+: (pTermL n atL gs l).1 ∧ (pTermL n atL gs l).1.length ≤ gs.length + cst (ndL l) ∧ (pTermL n atL gs l).2.length = l.length ∧ (∀ i a, l[i]? = some a → ((pTermL n atL gs l).2.getD i []).length = a.f1.toNat) ∧ ∀ m ∈ (pTermL n atL gs l).2, ∀ z ∈ m, LitOk n (pTermL n atL gs l).1 z := by
        intro l
        induction l with
        | nil => intro gs _ _ _ _; exact ⟨by simp [pTermL], by simp [pTermL, ndL, cst], rfl, by simp, by simp [pTermL]⟩
        | cons y r ihr =>
          intro gs hk' hnb' hat' hs'
          simp only [ndL, List.length_append, cst_append] at hk' hs' ⊢
          simp only [ndL] at hnb' hat'
          obtain ⟨a1, a2, a3, a4⟩ := ih y gs q29_ (fun z hz => hnb' z (by simp [hz])) (fun z hz => hat' z (by simp [hz])) q29_
          obtain ⟨b1, b2, b3, b4, b5⟩ := ihr (pTerm n atL gs y).1 q29_ (fun z hz => hnb' z (by simp [hz])) (fun z hz => hat' z (by simp [hz])) q29_
          simp only [pTermL]
          refine ⟨a1.trans b1, by omega, by simp [b3], ?_, ?_⟩
          · intro i a hi
            cases i with
            | zero => simp at hi; subst hi; exact a3
            | succ i => simpa using b4 i a (by simpa using hi)
          · intro m hm z hz
            rcases List.mem_cons.1 hm with rfl | hm
            · exact (a4 z hz).mono b1
            · exact b5 m hm z hz
      have hnd := nd_eq x
      rw [hnd] at hk hs
      simp only [List.length_cons] at hk
      rw [cst_cons] at hs
      obtain ⟨a1, a2, a3, a4, a5⟩ := key x.f5 gs q29_ (fun y hy => hnb y (by rw [hnd]; simp [hy])) (fun y hy => hat y (by rw [hnd]; simp [hy])) q29_
      obtain ⟨b1, b2, b3, b4⟩ := pOp_ok (gs := (pTermL n atL gs x.f5).1) (ls := (pTermL n atL gs x.f5).2) hnx h5 a3 a4 a5 q29_
      rw [hnd, cst_cons]
      exact ⟨a1.trans b1, by omega, b3, b4⟩
theorem pTermL_ok (n : Nat) (atL : ByteArray → Int → Int) : ∀ (l : List Tm) (gs : List Gt), (∀ y ∈ ndL l, NB y) → AtOk n atL (ndL l) → n + gs.length + cst (ndL l) ≤ 1000000 →
    gs <+: (pTermL n atL gs l).1 ∧ (pTermL n atL gs l).1.length ≤ gs.length + cst (ndL l) ∧ (pTermL n atL gs l).2.length = l.length ∧ (∀ i a, l[i]? = some a → ((pTermL n atL gs l).2.getD i []).length = a.f1.toNat) ∧ ∀ m ∈ (pTermL n atL gs l).2, ∀ z ∈ m, LitOk n (pTermL n atL gs l).1 z := by
  intro l
  induction l with
  | nil => intro gs _ _ _; exact ⟨by simp [pTermL], by simp [pTermL, ndL, cst], rfl, by simp, by simp [pTermL]⟩
  | cons y r ihr =>
    intro gs hnb' hat' hs'
    simp only [ndL, cst_append] at hs' ⊢
    simp only [ndL] at hnb' hat'
    obtain ⟨a1, a2, a3, a4⟩ := pTerm_ok n atL (nd y).length y gs (Nat.le_refl _) (fun z hz => hnb' z (by simp [hz])) (fun z hz => hat' z (by simp [hz])) q29_
    obtain ⟨b1, b2, b3, b4, b5⟩ := ihr (pTerm n atL gs y).1 (fun z hz => hnb' z (by simp [hz])) (fun z hz => hat' z (by simp [hz])) q29_
    simp only [pTermL]
    refine ⟨a1.trans b1, by omega, by simp [b3], ?_, ?_⟩
    · intro i a hi
      cases i with
      | zero => simp at hi; subst hi; exact a3
      | succ i => simpa using b4 i a (by simpa using hi)
    · intro m hm z hz
      rcases List.mem_cons.1 hm with rfl | hm
      · exact (a4 z hz).mono b1
      · exact b5 m hm z hz
end Go.Proofs.YtjopdafckhkmmaaDoor.MBS
