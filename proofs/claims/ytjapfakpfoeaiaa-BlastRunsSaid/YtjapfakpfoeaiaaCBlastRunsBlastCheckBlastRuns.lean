/- What blast.Check and the reference's Check come to: the same number, told by one plain function of the lists. -/
import Derived.Test.YtjapfakpfoeaiaaCBlastRunsEvl
import Derived.Test.YtjapfakpfoeaiaaCBlastRunsMBlastRunsx
set_option linter.unusedVariables false
namespace Go.Proofs.Ytjapfakpfoeaiaa.PureB
open Go.RowKit Go.Proofs.Ytjapfakpfoeaiaa.MBlastRuns Go.Proofs.YtjapfakpfoeaiaaW.PrintWords Go.Proofs.YtjapfakpfoeaiaaW.PrintLast Go.Proofs.YtjapfakpfoeaiaaW.PrintMore Go.Proofs.Ytjapfakpfoeaiaa.Evl
open Classical

/-- A byte that may stand at place i of a name. -/
def byteOk (s : ByteArray) (i : Int) : Prop := (97 ≤ bt s i ∧ bt s i ≤ 122) ∨ (65 ≤ bt s i ∧ bt s i ≤ 90) ∨ (i ≠ 0 ∧ (bt s i = 95 ∨ (48 ≤ bt s i ∧ bt s i ≤ 57)))
noncomputable def nameOk (s : ByteArray) : Bool := if s.size < 1 ∨ 24 < s.size then false else if ∀ i : Int, 0 ≤ i → i < s.size → byteOk s i then true else false

theorem ev_name (s : ByteArray) (hs : s.size ≤ 140737488351232) : Ev (fun k => bits_Name.f k s) (nameOk s) := by
  unfold nameOk bits_Name.f
  refine ev_if (fun h => ?_) (fun h => ?_)
  · refine Ev.step (fun k => by rw [bits_Name.j0]) ?_
    refine ev_pos rfl (ev_now ?_)
    rw [if_pos (by omega)]
  · refine Ev.step (fun k => by rw [bits_Name.j0]) ?_
    refine ev_if (fun h2 => ?_) (fun h2 => ?_)
    · refine ev_now ?_
      rw [if_pos (Or.inr (by have := of_decide_eq_true h2; omega))]
    · have h3 : ¬ (s.size < 1 ∨ 24 < s.size) := by
        have : ¬ ((s.size : Int) > 24) := fun h => h2 (decide_eq_true h)
        omega
      rw [if_neg h3]
      refine ev_all (g := fun k i => bits_Name.l0 k s (s.size : Int) i) (s.size : Int) (byteOk s) ?_ ?_ ?_ 0 (by omega) (by omega)
      · intro i h0 h1 hp r hr
        refine Ev.step (fun k => by rw [bits_Name.l0]) ?_
        refine ev_pos h1 (ev_pos h0 (ev_pos h1 ?_))
        have hw : wrap64 (i + 1) = i + 1 := wrap_id (by omega) (by omega)
        rw [hw]
        unfold byteOk at hp
        repeat' first
          | exact hr
          | refine ev_if (fun _ => ?_) (fun _ => ?_)
          | (exfalso; omega)
      · intro i h0 h1 hp
        refine Ev.step (fun k => by rw [bits_Name.l0]) ?_
        refine ev_pos h1 (ev_pos h0 (ev_pos h1 ?_))
        unfold byteOk at hp
        repeat' first
          | exact ev_now rfl
          | refine ev_if (fun _ => ?_) (fun _ => ?_)
          | (exfalso; omega)
      · refine Ev.step (fun k => by rw [bits_Name.l0]) ?_
        exact ev_neg (by omega) (ev_now rfl)

theorem ev_refName (s : ByteArray) (hs : s.size ≤ 140737488351232) : Ev (fun k => retargetref01_Name.f k s) (nameOk s) := by
  unfold nameOk retargetref01_Name.f
  refine ev_if (fun h => ?_) (fun h => ?_)
  · refine Ev.step (fun k => by rw [retargetref01_Name.j0]) ?_
    refine ev_pos rfl (ev_now ?_)
    rw [if_pos (by omega)]
  · refine Ev.step (fun k => by rw [retargetref01_Name.j0]) ?_
    refine ev_if (fun h2 => ?_) (fun h2 => ?_)
    · refine ev_now ?_
      rw [if_pos (Or.inr (by have := of_decide_eq_true h2; omega))]
    · have h3 : ¬ (s.size < 1 ∨ 24 < s.size) := by
        have : ¬ ((s.size : Int) > 24) := fun h => h2 (decide_eq_true h)
        omega
      rw [if_neg h3]
      refine ev_all (g := fun k i => retargetref01_Name.l0 k s i) (s.size : Int) (byteOk s) ?_ ?_ ?_ 0 (by omega) (by omega)
      · intro i h0 h1 hp r hr
        refine Ev.step (fun k => by rw [retargetref01_Name.l0]) ?_
        refine ev_pos h1 (ev_pos h0 ?_)
        have hw : wrap64 (i + 1) = i + 1 := wrap_id (by omega) (by omega)
        rw [hw]
        unfold byteOk at hp
        repeat' first
          | exact hr
          | refine ev_if (fun _ => ?_) (fun _ => ?_)
          | (exfalso; omega)
      · intro i h0 h1 hp
        refine Ev.step (fun k => by rw [retargetref01_Name.l0]) ?_
        refine ev_pos h1 (ev_pos h0 ?_)
        unfold byteOk at hp
        repeat' first
          | exact ev_now rfl
          | refine ev_if (fun _ => ?_) (fun _ => ?_)
          | (exfalso; omega)
      · refine Ev.step (fun k => by rw [retargetref01_Name.l0]) ?_
        exact ev_neg (by omega) (ev_now rfl)

/-- A string without 'r.' in front. -/
def bare (s : ByteArray) : ByteArray := if 2 ≤ s.size ∧ (s.extract 0 2).toList = [114, 46] then s.extract 2 s.size else s
theorem trim_eq (s : ByteArray) : strings_TrimPrefix.f s (⟨#[114, 46]⟩ : ByteArray) = some (bare s) := by
  have hz : ((⟨#[114, 46]⟩ : ByteArray).size : Int) = 2 := rfl
  have hl : (⟨#[114, 46]⟩ : ByteArray).toList = [114, 46] := by simp [ByteArray.toList_eq]
  unfold strings_TrimPrefix.f stringslite_TrimPrefix.f stringslite_HasPrefix.f bare
  rw [hz, hl]
  by_cases h : 2 ≤ s.size
  · rw [if_pos (by omega), if_pos (by omega), if_pos (by omega)]
    simp only [Option.bind_some, beq_iff_eq]
    by_cases h2 : (s.extract 0 (2 : Int).toNat).toList = [114, 46]
    · rw [if_pos h2, if_pos (by omega), if_pos (by omega), if_pos ⟨h, h2⟩]; rfl
    · rw [if_neg h2, if_neg (fun hh => h2 hh.2)]; rfl
  · rw [if_neg (by omega)]
    simp only [Option.bind_some]
    rw [if_neg (by decide), if_neg (fun hh => h hh.1)]
    rfl
theorem bare_size (s : ByteArray) : (bare s).size ≤ s.size := by
  unfold bare
  split
  · rw [ByteArray.size_extract]; omega
  · exact Nat.le_refl _
theorem bt_extract0 (s : ByteArray) (h : 2 ≤ s.size) (h2 : (s.extract 0 2).toList = [114, 46]) : bt s 1 = 46 := by
  have h3 : s.data.toList.take 2 = [114, 46] := by
    rw [← h2]
    simp [ByteArray.toList_eq, ByteArray.data_extract]
  have h4 : s.data.toList[1]? = some 46 := by
    have := congrArg (fun l : List UInt8 => l[1]?) h3
    simpa using this
  have h5 : (1 : Nat) < s.size := by omega
  unfold bt
  rw [dif_pos (by simpa using h5)]
  have h6 : s[(1 : Int).toNat]'(by simpa using h5) = 46 := by
    have h7 : s.data.toList[1]? = some (s[(1 : Int).toNat]'(by simpa using h5)) := by
      simp [ByteArray.getElem_eq_getElem_data]
    rw [h4] at h7
    exact (Option.some.inj h7).symm
  rw [h6]
  rfl

theorem ev_variable (s : ByteArray) (hs : s.size ≤ 140737488351232) : Ev (fun k => retargetref02_Variable.f k s) (nameOk (bare s)) := by
  unfold retargetref02_Variable.f
  have hone : ∀ t : ByteArray, t.size ≤ 140737488351232 → Ev (fun k => (retargetref01_Name.f k t).bind fun t173 => some t173) (nameOk t) := fun t ht => Ev.bind (ev_refName t ht) (Ev.now _)
  refine ev_if (fun h => ?_) (fun h => ?_)
  · refine ev_pos (by omega) (ev_pos (by omega) ?_)
    refine Ev.step (fun k => by rw [retargetref02_Variable.j0]) ?_
    refine ev_if (fun h2 => ?_) (fun h2 => ?_)
    · refine ev_pos (by omega) ?_
      have e : bare s = s.extract 2 s.size := by unfold bare; rw [if_pos ⟨by omega, by simpa using h2⟩]
      rw [e]
      exact hone _ (by rw [ByteArray.size_extract]; omega)
    · have e : bare s = s := by unfold bare; rw [if_neg (fun hh => h2 (by simpa using hh.2))]
      rw [e]
      exact hone _ hs
  · refine Ev.step (fun k => by rw [retargetref02_Variable.j0]) ?_
    refine ev_neg (by decide) ?_
    by_cases hb : 2 ≤ s.size ∧ (s.extract 0 2).toList = [114, 46]
    · refine ev_eq (hone s hs) ?_
      have e : bare s = s.extract 2 s.size := by unfold bare; rw [if_pos hb]
      have e1 : nameOk (bare s) = false := by unfold nameOk; rw [if_pos (Or.inl (by rw [e, ByteArray.size_extract]; omega))]
      have e2 : nameOk s = false := by
        unfold nameOk
        split
        · rfl
        · rw [if_neg (fun hall => ?_)]
          have := hall 1 (by omega) (by omega)
          unfold byteOk at this
          rw [bt_extract0 s hb.1 hb.2] at this
          omega
      rw [e1, e2]
    · have e : bare s = s := by unfold bare; rw [if_neg hb]
      rw [e]
      exact hone s hs

/-- An input comes before another one. -/
def before (a b : S52) : Prop := Op.bytesLess a.f0.toList b.f0.toList = true ∨ (a.f0.toList = b.f0.toList ∧ a.f1 < b.f1)
theorem before_eq (a b : S52) : blast_before.f a.f0 a.f1 b.f0 b.f1 = some (decide (before a b)) := by
  have hd : ∀ (p : Prop) (i : Decidable p), p → @decide p i = true := fun p i h => @decide_eq_true p i h
  have hf : ∀ (p : Prop) (i : Decidable p), ¬ p → @decide p i = false := fun p i h => @decide_eq_false p i h
  unfold blast_before.f
  by_cases h : Op.bytesLess a.f0.toList b.f0.toList = true
  · rw [if_pos h, hd (before a b) _ (Or.inl h)]
  · rw [if_neg h]
    by_cases h2 : a.f0.toList = b.f0.toList
    · rw [if_pos h2]
      congr 1
      by_cases h3 : a.f1 < b.f1
      · rw [decide_eq_true h3, hd (before a b) _ (Or.inr ⟨h2, h3⟩)]
      · rw [decide_eq_false h3, hf (before a b) _ (fun hh => ?_)]
        rcases hh with hh | hh
        · exact h hh
        · exact h3 hh.2
    · rw [if_neg h2, hf (before a b) _ (fun hh => ?_)]
      rcases hh with hh | hh
      · exact h hh
      · exact h2 hh.1

def inOk (l : List S52) (i : Int) : Prop :=
  nameOk (bare (rd_T52 l i).f0) = true ∧ 0 ≤ (rd_T52 l i).f1 ∧ (rd_T52 l i).f1 < 64 ∧ (0 < i → before (rd_T52 l (i - 1)) (rd_T52 l i))
def gateOk (n : Nat) (l : List S54) (i : Int) : Prop :=
  0 ≤ (rd_T54 l i).f0 ∧ (rd_T54 l i).f0 < 2 * (1 + n + i) ∧ 0 ≤ (rd_T54 l i).f1 ∧ (rd_T54 l i).f1 < 2 * (1 + n + i)
def outOk (n : Int) (l : List Int) (i : Int) : Prop := 0 ≤ rd l i ∧ rd l i < 2 * n
/-- The number of the error of a circuit. -/
noncomputable def chk (a : List S52) (b : List S54) (c : List Int) : Int :=
  if a.length > 512 ∨ b.length > 100000 ∨ c.length > 64 then 4
  else if ∀ j : Int, 0 ≤ j → j < a.length → inOk a j then
    (if ∀ j : Int, 0 ≤ j → j < b.length → gateOk a.length b j then (if ∀ j : Int, 0 ≤ j → j < c.length → outOk (1 + a.length + b.length) c j then 0 else 8) else 8)
  else 8

theorem getD_mem {α : Type} {l : List α} {z : α} {i : Nat} (h : i < l.length) : l.getD i z ∈ l := by
  rw [List.getD_eq_getElem?_getD, List.getElem?_eq_getElem h]
  exact List.getElem_mem h
theorem rd52_mem {l : List S52} {i : Int} (h0 : 0 ≤ i) (h1 : i < l.length) : rd_T52 l i ∈ l := getD_mem (by omega)

theorem ev_check (a : List S52) (b : List S54) (c : List Int) (ha : ∀ x ∈ a, x.f0.size ≤ 140737488351232) : Ev (fun k => blast_Check.f k a b c) (chk a b c) := by
  unfold chk blast_Check.f
  have big : (a.length > 512 ∨ b.length > 100000 ∨ c.length > 64) → ∀ x, x = true → Ev (fun k => blast_Check.j0 k x a b c) (4 : Int) := fun _ x hx => by
    subst hx
    exact Ev.step (fun k => by rw [blast_Check.j0]) (ev_pos rfl (ev_now rfl))
  by_cases hbig : a.length > 512 ∨ b.length > 100000 ∨ c.length > 64
  · rw [if_pos hbig]
    refine ev_if (fun h => big hbig _ rfl) (fun h => ev_if (fun h2 => big hbig _ rfl) (fun h2 => big hbig _ (decide_eq_true (by omega))))
  · rw [if_neg hbig]
    refine ev_neg (by omega) (ev_neg (by omega) ?_)
    refine Ev.step (fun k => by rw [blast_Check.j0]) (ev_neg (by rw [decide_eq_true_eq]; omega) ?_)
    have hw : wrap64 (1 + (a.length : Int)) = 1 + a.length := wrap_id (by omega) (by omega)
    -- the outputs
    have h2 : Ev (fun k => blast_Check.l2 k (1 + a.length) c (c.length : Int) 0 a b c) (if ∀ j : Int, 0 ≤ j → j < c.length → outOk (1 + a.length + b.length) c j then (0 : Int) else 8) := by
      have hw2 : wrap64 (2 * wrap64 (1 + (a.length : Int) + b.length)) = 2 * (1 + a.length + b.length) := by rw [wrap_id (n := 1 + (a.length : Int) + b.length) (by omega) (by omega), wrap_id (by omega) (by omega)]
      refine ev_all (g := fun k i => blast_Check.l2 k (1 + a.length) c (c.length : Int) i a b c) (c.length : Int) (outOk (1 + a.length + b.length) c) ?_ ?_ ?_ 0 (by omega) (by omega)
      · intro i h0 h1 hp r hr
        refine Ev.step (fun k => by rw [blast_Check.l2]) ?_
        refine ev_pos h1 (ev_pos h0 (ev_pos h1 ?_))
        unfold outOk at hp
        rw [hw2, wrap_id (n := i + 1) (by omega) (by omega)]
        exact ev_neg (by omega) (ev_neg (by omega) hr)
      · intro i h0 h1 hp
        refine Ev.step (fun k => by rw [blast_Check.l2]) ?_
        refine ev_pos h1 (ev_pos h0 (ev_pos h1 ?_))
        unfold outOk at hp
        rw [hw2]
        exact ev_if (fun _ => ev_now rfl) (fun _ => ev_pos (by omega) (ev_now rfl))
      · refine Ev.step (fun k => by rw [blast_Check.l2]) ?_
        exact ev_neg (by omega) (ev_now rfl)
    -- the gates
    have h1 : Ev (fun k => blast_Check.l1 k (1 + a.length) b (b.length : Int) 0 a b c) (if ∀ j : Int, 0 ≤ j → j < b.length → gateOk a.length b j then (if ∀ j : Int, 0 ≤ j → j < c.length → outOk (1 + a.length + b.length) c j then (0 : Int) else 8) else 8) := by
      refine ev_all (g := fun k i => blast_Check.l1 k (1 + a.length) b (b.length : Int) i a b c) (b.length : Int) (gateOk a.length b) ?_ ?_ ?_ 0 (by omega) (by omega)
      · intro i h0 h1 hp r hr
        have hw2 : wrap64 (2 * wrap64 (1 + (a.length : Int) + i)) = 2 * (1 + a.length + i) := by rw [wrap_id (n := 1 + (a.length : Int) + i) (by omega) (by omega), wrap_id (by omega) (by omega)]
        refine Ev.step (fun k => by rw [blast_Check.l1]) ?_
        refine ev_pos h1 (ev_pos h0 (ev_pos h1 ?_))
        unfold gateOk at hp
        rw [hw2, wrap_id (n := i + 1) (by omega) (by omega)]
        exact ev_neg (by unfold mn; split <;> omega) (ev_neg (by unfold mx; split <;> omega) hr)
      · intro i h0 h1 hp
        have hw2 : wrap64 (2 * wrap64 (1 + (a.length : Int) + i)) = 2 * (1 + a.length + i) := by rw [wrap_id (n := 1 + (a.length : Int) + i) (by omega) (by omega), wrap_id (by omega) (by omega)]
        refine Ev.step (fun k => by rw [blast_Check.l1]) ?_
        refine ev_pos h1 (ev_pos h0 (ev_pos h1 ?_))
        unfold gateOk at hp
        rw [hw2]
        refine ev_if (fun _ => ev_now rfl) (fun hm => ev_pos ?_ (ev_now rfl))
        unfold mn at hm
        unfold mx
        split at hm <;> split <;> omega
      · refine Ev.step (fun k => by rw [blast_Check.l1]) ?_
        exact ev_neg (by omega) h2
    refine ev_all (g := fun k i => blast_Check.l0 k a (a.length : Int) i a b c) (a.length : Int) (inOk a) ?_ ?_ ?_ 0 (by omega) (by omega)
    · intro i h0 h1 hp r hr
      unfold inOk at hp
      refine Ev.step (fun k => by rw [blast_Check.l0]) ?_
      refine ev_pos h1 (ev_pos h0 (ev_pos h1 (ev_bindc (trim_eq _) (Ev.bind (ev_name _ (Nat.le_trans (bare_size _) (ha _ (rd52_mem h0 h1)))) ?_))))
      refine ev_pos hp.1 (ev_neg (by omega) (ev_neg (by omega) ?_))
      rw [wrap_id (n := i + 1) (by omega) (by omega), wrap_id (n := i - 1) (by omega) (by omega)]
      refine ev_if (fun hi => ?_) (fun _ => hr)
      refine ev_pos (by omega) (ev_pos (by omega) (ev_bindc (before_eq _ _) (ev_pos (decide_eq_true (hp.2.2.2 hi)) hr)))
    · intro i h0 h1 hp
      unfold inOk at hp
      refine Ev.step (fun k => by rw [blast_Check.l0]) ?_
      refine ev_pos h1 (ev_pos h0 (ev_pos h1 (ev_bindc (trim_eq _) (Ev.bind (ev_name _ (Nat.le_trans (bare_size _) (ha _ (rd52_mem h0 h1)))) ?_))))
      refine ev_if (fun hn => ?_) (fun _ => ev_now rfl)
      refine ev_if (fun _ => ev_now rfl) (fun h3 => ev_if (fun _ => ev_now rfl) (fun h4 => ?_))
      rw [wrap_id (n := i - 1) (by omega) (by omega)]
      by_cases hi : i > 0
      · refine ev_pos hi (ev_pos (by omega) (ev_pos (by omega) (ev_bindc (before_eq _ _) (ev_neg ?_ (ev_now rfl)))))
        intro hb
        exact hp ⟨hn, by omega, by omega, fun _ => of_decide_eq_true hb⟩
      · exact absurd ⟨hn, by omega, by omega, fun h => absurd h hi⟩ hp
    · refine Ev.step (fun k => by rw [blast_Check.l0]) ?_
      refine ev_neg (by omega) ?_
      rw [hw]
      exact h1

/-- The model's '<' on strings is the lexical order of the bytes' lists. -/
theorem bytesLess_eq : ∀ (x y : List UInt8), Op.bytesLess x y = decide (x < y)
  | [], [] => by simp [Op.bytesLess]
  | _ :: _, [] => by simp [Op.bytesLess]
  | [], _ :: _ => by simp [Op.bytesLess]
  | a :: x, b :: y => by
    rw [Op.bytesLess, bytesLess_eq x y]
    simp only [List.cons_lt_cons_iff]
    by_cases h1 : a < b <;> by_cases h2 : a = b <;> by_cases h3 : x < y <;> simp [h1, h2, h3]

theorem not_before (a b : S52) : ¬ before a b ↔ (Op.bytesLess b.f0.toList a.f0.toList = true ∨ (a.f0.toList = b.f0.toList ∧ a.f1 ≥ b.f1)) := by
  unfold before
  rw [bytesLess_eq, bytesLess_eq]
  simp only [decide_eq_true_eq]
  constructor
  · intro h
    rcases Decidable.em (b.f0.toList < a.f0.toList) with h1 | h1
    · exact Or.inl h1
    · have h2 : a.f0.toList = b.f0.toList := List.le_antisymm (List.not_lt.1 h1) (List.not_lt.1 (fun hh => h (Or.inl hh)))
      exact Or.inr ⟨h2, by
        have : ¬ a.f1 < b.f1 := fun hh => h (Or.inr ⟨h2, hh⟩)
        omega⟩
  · intro h hh
    rcases h with h | ⟨h1, h2⟩
    · rcases hh with hh | ⟨h3, _⟩
      · exact List.lt_asymm h hh
      · rw [h3] at h
        exact List.lt_irrefl _ h
    · rcases hh with hh | ⟨_, h4⟩
      · rw [h1] at hh
        exact List.lt_irrefl _ hh
      · omega

theorem ev_refCheck (a : List S52) (b : List S54) (c : List Int) (ha : ∀ x ∈ a, x.f0.size ≤ 140737488351232) : Ev (fun k => retargetref04_Check.f k a b c) (chk a b c) := by
  unfold chk retargetref04_Check.f
  have big : (a.length > 512 ∨ b.length > 100000 ∨ c.length > 64) → ∀ x, x = true → Ev (fun k => retargetref04_Check.j0 k x a b c) (4 : Int) := fun _ x hx => by
    subst hx
    exact Ev.step (fun k => by rw [retargetref04_Check.j0]) (ev_pos rfl (ev_now rfl))
  by_cases hbig : a.length > 512 ∨ b.length > 100000 ∨ c.length > 64
  · rw [if_pos hbig]
    refine ev_if (fun h => big hbig _ rfl) (fun h => ev_if (fun h2 => big hbig _ rfl) (fun h2 => big hbig _ (decide_eq_true (by omega))))
  · rw [if_neg hbig]
    refine ev_neg (by omega) (ev_neg (by omega) ?_)
    refine Ev.step (fun k => by rw [retargetref04_Check.j0]) (ev_neg (by rw [decide_eq_true_eq]; omega) ?_)
    have hw : wrap64 (1 + (a.length : Int)) = 1 + a.length := wrap_id (by omega) (by omega)
    have h2 : Ev (fun k => retargetref04_Check.l2 k 0 a b c) (if ∀ j : Int, 0 ≤ j → j < c.length → outOk (1 + a.length + b.length) c j then (0 : Int) else 8) := by
      have hw2 : wrap64 (2 * wrap64 (wrap64 (1 + (a.length : Int)) + b.length)) = 2 * (1 + a.length + b.length) := by rw [hw, wrap_id (n := 1 + (a.length : Int) + b.length) (by omega) (by omega), wrap_id (by omega) (by omega)]
      refine ev_all (g := fun k i => retargetref04_Check.l2 k i a b c) (c.length : Int) (outOk (1 + a.length + b.length) c) ?_ ?_ ?_ 0 (by omega) (by omega)
      · intro i h0 h1 hp r hr
        refine Ev.step (fun k => by rw [retargetref04_Check.l2]) ?_
        refine ev_pos h1 (ev_pos h0 ?_)
        unfold outOk at hp
        rw [hw2, wrap_id (n := i + 1) (by omega) (by omega)]
        exact ev_neg (by omega) (ev_neg (by omega) hr)
      · intro i h0 h1 hp
        refine Ev.step (fun k => by rw [retargetref04_Check.l2]) ?_
        refine ev_pos h1 (ev_pos h0 ?_)
        unfold outOk at hp
        rw [hw2]
        exact ev_if (fun _ => ev_now rfl) (fun _ => ev_pos (by omega) (ev_now rfl))
      · refine Ev.step (fun k => by rw [retargetref04_Check.l2]) ?_
        exact ev_neg (by omega) (ev_now rfl)
    have h1 : Ev (fun k => retargetref04_Check.l1 k 0 a b c) (if ∀ j : Int, 0 ≤ j → j < b.length → gateOk a.length b j then (if ∀ j : Int, 0 ≤ j → j < c.length → outOk (1 + a.length + b.length) c j then (0 : Int) else 8) else 8) := by
      refine ev_all (g := fun k i => retargetref04_Check.l1 k i a b c) (b.length : Int) (gateOk a.length b) ?_ ?_ ?_ 0 (by omega) (by omega)
      · intro i h0 h1 hp r hr
        have hw2 : wrap64 (2 * wrap64 (wrap64 (1 + (a.length : Int)) + i)) = 2 * (1 + a.length + i) := by rw [hw, wrap_id (n := 1 + (a.length : Int) + i) (by omega) (by omega), wrap_id (by omega) (by omega)]
        refine Ev.step (fun k => by rw [retargetref04_Check.l1]) ?_
        refine ev_pos h1 (ev_pos h0 ?_)
        unfold gateOk at hp
        rw [hw2, wrap_id (n := i + 1) (by omega) (by omega)]
        exact ev_neg (by omega) (ev_neg (by omega) (ev_neg (by omega) (ev_neg (by omega) hr)))
      · intro i h0 h1 hp
        have hw2 : wrap64 (2 * wrap64 (wrap64 (1 + (a.length : Int)) + i)) = 2 * (1 + a.length + i) := by rw [hw, wrap_id (n := 1 + (a.length : Int) + i) (by omega) (by omega), wrap_id (by omega) (by omega)]
        refine Ev.step (fun k => by rw [retargetref04_Check.l1]) ?_
        refine ev_pos h1 (ev_pos h0 ?_)
        unfold gateOk at hp
        rw [hw2]
        exact ev_if (fun _ => ev_now rfl) (fun _ => ev_if (fun _ => ev_now rfl) (fun _ => ev_if (fun _ => ev_now rfl) (fun _ => ev_pos (by omega) (ev_now rfl))))
      · refine Ev.step (fun k => by rw [retargetref04_Check.l1]) ?_
        exact ev_neg (by omega) h2
    have bad : ∀ (i : Int), Ev (fun k => retargetref04_Check.j2 k i true a b c (rd_T52 a i).f0 (rd_T52 a i).f1) (8 : Int) := fun i =>
      Ev.step (fun k => by rw [retargetref04_Check.j2]) (ev_pos rfl (ev_now rfl))
    refine ev_all (g := fun k i => retargetref04_Check.l0 k i a b c) (a.length : Int) (inOk a) ?_ ?_ ?_ 0 (by omega) (by omega)
    · intro i h0 h1 hp r hr
      unfold inOk at hp
      refine Ev.step (fun k => by rw [retargetref04_Check.l0]) ?_
      refine ev_pos h1 (ev_pos h0 (Ev.bind (ev_variable _ (ha _ (rd52_mem h0 h1))) ?_))
      refine ev_pos hp.1 (ev_neg (by omega) ?_)
      rw [decide_eq_false (by omega)]
      refine Ev.step (fun k => by rw [retargetref04_Check.j2]) (ev_neg (by decide) ?_)
      rw [wrap_id (n := i + 1) (by omega) (by omega), wrap_id (n := i - 1) (by omega) (by omega)]
      refine ev_if (fun hi => ?_) (fun _ => hr)
      have hb := hp.2.2.2 hi
      have hnb := (not_congr (not_before _ _)).1 (fun h => h hb)
      refine ev_pos (by omega) (ev_pos (by omega) (ev_neg (fun h => hnb (Or.inl h)) (ev_if (fun h => ev_neg (fun h2 => hnb (Or.inr ⟨h, h2⟩)) hr) (fun _ => hr))))
    · intro i h0 h1 hp
      unfold inOk at hp
      refine Ev.step (fun k => by rw [retargetref04_Check.l0]) ?_
      refine ev_pos h1 (ev_pos h0 (Ev.bind (ev_variable _ (ha _ (rd52_mem h0 h1))) ?_))
      refine ev_if (fun hn => ?_) (fun _ => bad i)
      refine ev_if (fun _ => bad i) (fun h3 => ?_)
      by_cases h4 : (rd_T52 a i).f1 > 63
      · rw [decide_eq_true h4]
        exact bad i
      · rw [decide_eq_false h4]
        refine Ev.step (fun k => by rw [retargetref04_Check.j2]) (ev_neg (by decide) ?_)
        rw [wrap_id (n := i - 1) (by omega) (by omega)]
        by_cases hi : i > 0
        · refine ev_pos hi (ev_pos (by omega) (ev_pos (by omega) ?_))
          have hnb : ¬ before (rd_T52 a (i - 1)) (rd_T52 a i) := fun hb => hp ⟨hn, by omega, by omega, fun _ => hb⟩
          rcases (not_before _ _).1 hnb with h | ⟨h, h2⟩
          · exact ev_pos h (ev_now rfl)
          · exact ev_if (fun _ => ev_now rfl) (fun _ => ev_pos h (ev_pos h2 (ev_now rfl)))
        · exact absurd ⟨hn, by omega, by omega, fun h => absurd h hi⟩ hp
    · refine Ev.step (fun k => by rw [retargetref04_Check.l0]) ?_
      exact ev_neg (by omega) h1
end Go.Proofs.Ytjapfakpfoeaiaa.PureB
