/- What the program's Check, Clauses, Run and the reference's Nodes come to, told over lists. No condition. -/
import Derived.Test.YtjopdafckhkmmaaDoorCBSatEvl
import Derived.Test.YtjopdafckhkmmaaDoorCBSatMBSx
set_option linter.unusedVariables false
namespace Go.Proofs.YtjopdafckhkmmaaDoor.PureS
open Go.RowKit Go.Proofs.YtjopdafckhkmmaaDoor.MBS Go.Proofs.YtjopdafckhkmmaaDoorW.PrintWords Go.Proofs.YtjopdafckhkmmaaDoorW.PrintLast Go.Proofs.YtjopdafckhkmmaaDoorW.PrintMore Go.Proofs.YtjopdafckhkmmaaDoor.Evl
open Classical
/-- A byte that may stand at place i of a name. -/
def byteOk (s : ByteArray) (i : Int) : Prop := (97 ≤ bt s i ∧ bt s i ≤ 122) ∨ (65 ≤ bt s i ∧ bt s i ≤ 90) ∨ (i ≠ 0 ∧ (bt s i = 95 ∨ (48 ≤ bt s i ∧ bt s i ≤ 57)))
noncomputable def nameOk (s : ByteArray) : Bool := if s.size < 1 ∨ 24 < s.size then false else if ∀ i : Int, 0 ≤ i → i < s.size → byteOk s i then true else false
theorem ev_name (s : ByteArray) (hs : s.size ≤ 140737488351232) : Ev (fun k => bits_Name.f k s) (nameOk s) := by
  unfold nameOk bits_Name.f
  refine ev_if (fun h => ?_) (fun h => ?_)
  · refine Ev.step (fun k => by rw [bits_Name.j0]) ?_
    refine ev_pos rfl (ev_now ?_)
    rw [if_pos (by omega)]
  · refine Ev.step (fun k => by rw [bits_Name.j0]) ?_
    refine ev_if (fun h2 => ?_) (fun h2 => ?_)
    · refine ev_now ?_
      rw [if_pos (Or.inr (by have := of_decide_eq_true h2; omega))]
    · have h3 : ¬ (s.size < 1 ∨ 24 < s.size) := by
        have : ¬ ((s.size : Int) > 24) := fun h => h2 (decide_eq_true h)
        omega
      rw [if_neg h3]
      refine ev_all (g := fun k i => bits_Name.l0 k s (s.size : Int) i) (s.size : Int) (byteOk s) ?_ ?_ ?_ 0 (by omega) (by omega)
      · intro i h0 h1 hp r hr
        refine Ev.step (fun k => by rw [bits_Name.l0]) ?_
        refine ev_pos h1 (ev_pos h0 (ev_pos h1 ?_))
        have hw : wrap64 (i + 1) = i + 1 := wrap_id (by omega) (by omega)
        rw [hw]
        unfold byteOk at hp
        repeat' first
          | exact hr
          | refine ev_if (fun _ => ?_) (fun _ => ?_)
          | (exfalso; omega)
      · intro i h0 h1 hp
        refine Ev.step (fun k => by rw [bits_Name.l0]) ?_
        refine ev_pos h1 (ev_pos h0 (ev_pos h1 ?_))
        unfold byteOk at hp
        repeat' first
          | exact ev_now rfl
          | refine ev_if (fun _ => ?_) (fun _ => ?_)
          | (exfalso; omega)
      · refine Ev.step (fun k => by rw [bits_Name.l0]) ?_
        exact ev_neg (by omega) (ev_now rfl)
/-- A string without 'r.' in front. -/
def bare (s : ByteArray) : ByteArray := if 2 ≤ s.size ∧ (s.extract 0 2).toList = [114, 46] then s.extract 2 s.size else s
theorem trim_eq (s : ByteArray) : strings_TrimPrefix.f s (⟨#[114, 46]⟩ : ByteArray) = some (bare s) := by
  have hz : ((⟨#[114, 46]⟩ : ByteArray).size : Int) = 2 := rfl
  have hl : (⟨#[114, 46]⟩ : ByteArray).toList = [114, 46] := by simp [ByteArray.toList_eq]
  unfold strings_TrimPrefix.f stringslite_TrimPrefix.f stringslite_HasPrefix.f bare
  rw [hz, hl]
  by_cases h : 2 ≤ s.size
  · rw [if_pos (by omega), if_pos (by omega), if_pos (by omega)]
    simp only [Option.bind_some, beq_iff_eq]
    by_cases h2 : (s.extract 0 (2 : Int).toNat).toList = [114, 46]
    · rw [if_pos h2, if_pos (by omega), if_pos (by omega), if_pos ⟨h, h2⟩]; rfl
    · rw [if_neg h2, if_neg (fun hh => h2 hh.2)]; rfl
  · rw [if_neg (by omega)]
    simp only [Option.bind_some]
    rw [if_neg (by decide), if_neg (fun hh => h hh.1)]
    rfl
theorem bare_size (s : ByteArray) : (bare s).size ≤ s.size := by
  unfold bare
  split
  · rw [ByteArray.size_extract]; omega
  · exact Nat.le_refl _
/-- An input comes before another one. -/
def before (a b : S44) : Prop := Op.bytesLess a.f0.toList b.f0.toList = true ∨ (a.f0.toList = b.f0.toList ∧ a.f1 < b.f1)
theorem before_eq (a b : S44) : blast_before.f a.f0 a.f1 b.f0 b.f1 = some (decide (before a b)) := by
  have hd : ∀ (p : Prop) (i : Decidable p), p → @decide p i = true := fun p i h => @decide_eq_true p i h
  have hf : ∀ (p : Prop) (i : Decidable p), ¬ p → @decide p i = false := fun p i h => @decide_eq_false p i h
  unfold blast_before.f
  by_cases h : Op.bytesLess a.f0.toList b.f0.toList = true
  · rw [if_pos h, hd (before a b) _ (Or.inl h)]
  · rw [if_neg h]
    by_cases h2 : a.f0.toList = b.f0.toList
    · rw [if_pos h2]
      congr 1
      by_cases h3 : a.f1 < b.f1
      · rw [decide_eq_true h3, hd (before a b) _ (Or.inr ⟨h2, h3⟩)]
      · rw [decide_eq_false h3, hf (before a b) _ (fun hh => ?_)]
        rcases hh with hh | hh
        · exact h hh
        · exact h3 hh.2
    · rw [if_neg h2, hf (before a b) _ (fun hh => ?_)]
      rcases hh with hh | hh
      · exact h hh
      · exact h2 hh.1
def inOk (l : List S44) (i : Int) : Prop :=
  nameOk (bare (rd_T44 l i).f0) = true ∧ 0 ≤ (rd_T44 l i).f1 ∧ (rd_T44 l i).f1 < 64 ∧ (0 < i → before (rd_T44 l (i - 1)) (rd_T44 l i))
def gateOk (n : Nat) (l : List S49) (i : Int) : Prop :=
  0 ≤ (rd_T49 l i).f0 ∧ (rd_T49 l i).f0 < 2 * (1 + n + i) ∧ 0 ≤ (rd_T49 l i).f1 ∧ (rd_T49 l i).f1 < 2 * (1 + n + i)
def outOk (n : Int) (l : List Int) (i : Int) : Prop := 0 ≤ rd l i ∧ rd l i < 2 * n
/-- The number of the error of a circuit. -/
noncomputable def chk (a : List S44) (b : List S49) (c : List Int) : Int :=
  if a.length > 512 ∨ b.length > 100000 ∨ c.length > 64 then 4
  else if ∀ j : Int, 0 ≤ j → j < a.length → inOk a j then
    (if ∀ j : Int, 0 ≤ j → j < b.length → gateOk a.length b j then (if ∀ j : Int, 0 ≤ j → j < c.length → outOk (1 + a.length + b.length) c j then 0 else 8) else 8)
  else 8
theorem getD_mem {α : Type} {l : List α} {z : α} {i : Nat} (h : i < l.length) : l.getD i z ∈ l := by
  rw [List.getD_eq_getElem?_getD, List.getElem?_eq_getElem h]
  exact List.getElem_mem h
theorem rd52_mem {l : List S44} {i : Int} (h0 : 0 ≤ i) (h1 : i < l.length) : rd_T44 l i ∈ l := getD_mem (by omega)
theorem ev_check (a : List S44) (b : List S49) (c : List Int) (ha : ∀ x ∈ a, x.f0.size ≤ 140737488351232) : Ev (fun k => blast_Check.f k a b c) (chk a b c) := by
  unfold chk blast_Check.f
  have big : (a.length > 512 ∨ b.length > 100000 ∨ c.length > 64) → ∀ x, x = true → Ev (fun k => blast_Check.j0 k x a b c) (4 : Int) := fun _ x hx => by
    subst hx
    exact Ev.step (fun k => by rw [blast_Check.j0]) (ev_pos rfl (ev_now rfl))
  by_cases hbig : a.length > 512 ∨ b.length > 100000 ∨ c.length > 64
  · rw [if_pos hbig]
    refine ev_if (fun h => big hbig _ rfl) (fun h => ev_if (fun h2 => big hbig _ rfl) (fun h2 => big hbig _ (decide_eq_true (by omega))))
  · rw [if_neg hbig]
    refine ev_neg (by omega) (ev_neg (by omega) ?_)
    refine Ev.step (fun k => by rw [blast_Check.j0]) (ev_neg (by rw [decide_eq_true_eq]; omega) ?_)
    have hw : wrap64 (1 + (a.length : Int)) = 1 + a.length := wrap_id (by omega) (by omega)
    -- the outputs
    have h2 : Ev (fun k => blast_Check.l2 k (1 + a.length) c (c.length : Int) 0 a b c) (if ∀ j : Int, 0 ≤ j → j < c.length → outOk (1 + a.length + b.length) c j then (0 : Int) else 8) := by
      have hw2 : wrap64 (2 * wrap64 (1 + (a.length : Int) + b.length)) = 2 * (1 + a.length + b.length) := by rw [wrap_id (n := 1 + (a.length : Int) + b.length) (by omega) (by omega), wrap_id (by omega) (by omega)]
      refine ev_all (g := fun k i => blast_Check.l2 k (1 + a.length) c (c.length : Int) i a b c) (c.length : Int) (outOk (1 + a.length + b.length) c) ?_ ?_ ?_ 0 (by omega) (by omega)
      · intro i h0 h1 hp r hr
        refine Ev.step (fun k => by rw [blast_Check.l2]) ?_
        refine ev_pos h1 (ev_pos h0 (ev_pos h1 ?_))
        unfold outOk at hp
        rw [hw2, wrap_id (n := i + 1) (by omega) (by omega)]
        exact ev_neg (by omega) (ev_neg (by omega) hr)
      · intro i h0 h1 hp
        refine Ev.step (fun k => by rw [blast_Check.l2]) ?_
        refine ev_pos h1 (ev_pos h0 (ev_pos h1 ?_))
        unfold outOk at hp
        rw [hw2]
        exact ev_if (fun _ => ev_now rfl) (fun _ => ev_pos (by omega) (ev_now rfl))
      · refine Ev.step (fun k => by rw [blast_Check.l2]) ?_
        exact ev_neg (by omega) (ev_now rfl)
    -- the gates
    have h1 : Ev (fun k => blast_Check.l1 k (1 + a.length) b (b.length : Int) 0 a b c) (if ∀ j : Int, 0 ≤ j → j < b.length → gateOk a.length b j then (if ∀ j : Int, 0 ≤ j → j < c.length → outOk (1 + a.length + b.length) c j then (0 : Int) else 8) else 8) := by
      refine ev_all (g := fun k i => blast_Check.l1 k (1 + a.length) b (b.length : Int) i a b c) (b.length : Int) (gateOk a.length b) ?_ ?_ ?_ 0 (by omega) (by omega)
      · intro i h0 h1 hp r hr
        have hw2 : wrap64 (2 * wrap64 (1 + (a.length : Int) + i)) = 2 * (1 + a.length + i) := by rw [wrap_id (n := 1 + (a.length : Int) + i) (by omega) (by omega), wrap_id (by omega) (by omega)]
        refine Ev.step (fun k => by rw [blast_Check.l1]) ?_
        refine ev_pos h1 (ev_pos h0 (ev_pos h1 ?_))
        unfold gateOk at hp
        rw [hw2, wrap_id (n := i + 1) (by omega) (by omega)]
        exact ev_neg (by unfold mn; split <;> omega) (ev_neg (by unfold mx; split <;> omega) hr)
      · intro i h0 h1 hp
        have hw2 : wrap64 (2 * wrap64 (1 + (a.length : Int) + i)) = 2 * (1 + a.length + i) := by rw [wrap_id (n := 1 + (a.length : Int) + i) (by omega) (by omega), wrap_id (by omega) (by omega)]
        refine Ev.step (fun k => by rw [blast_Check.l1]) ?_
        refine ev_pos h1 (ev_pos h0 (ev_pos h1 ?_))
        unfold gateOk at hp
        rw [hw2]
        refine ev_if (fun _ => ev_now rfl) (fun hm => ev_pos ?_ (ev_now rfl))
        unfold mn at hm
        unfold mx
        split at hm <;> split <;> omega
      · refine Ev.step (fun k => by rw [blast_Check.l1]) ?_
        exact ev_neg (by omega) h2
    refine ev_all (g := fun k i => blast_Check.l0 k a (a.length : Int) i a b c) (a.length : Int) (inOk a) ?_ ?_ ?_ 0 (by omega) (by omega)
    · intro i h0 h1 hp r hr
      unfold inOk at hp
      refine Ev.step (fun k => by rw [blast_Check.l0]) ?_
      refine ev_pos h1 (ev_pos h0 (ev_pos h1 (ev_bindc (trim_eq _) (Ev.bind (ev_name _ (Nat.le_trans (bare_size _) (ha _ (rd52_mem h0 h1)))) ?_))))
      refine ev_pos hp.1 (ev_neg (by omega) (ev_neg (by omega) ?_))
      rw [wrap_id (n := i + 1) (by omega) (by omega), wrap_id (n := i - 1) (by omega) (by omega)]
      refine ev_if (fun hi => ?_) (fun _ => hr)
      refine ev_pos (by omega) (ev_pos (by omega) (ev_bindc (before_eq _ _) (ev_pos (decide_eq_true (hp.2.2.2 hi)) hr)))
    · intro i h0 h1 hp
      unfold inOk at hp
      refine Ev.step (fun k => by rw [blast_Check.l0]) ?_
      refine ev_pos h1 (ev_pos h0 (ev_pos h1 (ev_bindc (trim_eq _) (Ev.bind (ev_name _ (Nat.le_trans (bare_size _) (ha _ (rd52_mem h0 h1)))) ?_))))
      refine ev_if (fun hn => ?_) (fun _ => ev_now rfl)
      refine ev_if (fun _ => ev_now rfl) (fun h3 => ev_if (fun _ => ev_now rfl) (fun h4 => ?_))
      rw [wrap_id (n := i - 1) (by omega) (by omega)]
      by_cases hi : i > 0
      · refine ev_pos hi (ev_pos (by omega) (ev_pos (by omega) (ev_bindc (before_eq _ _) (ev_neg ?_ (ev_now rfl)))))
        intro hb
        exact hp ⟨hn, by omega, by omega, fun _ => of_decide_eq_true hb⟩
      · exact absurd ⟨hn, by omega, by omega, fun h => absurd h hi⟩ hp
    · refine Ev.step (fun k => by rw [blast_Check.l0]) ?_
      refine ev_neg (by omega) ?_
      rw [hw]
      exact h1
theorem great (a : List S44) (b : List S49) (c : List Int) (ha : a.length ≤ 5864062014805) :
    ∃ r, Ev (fun k => retargetref04_Great.f k a b c) r ∧ (r = false → a.length ≤ 600 ∧ b.length ≤ 100100 ∧ c.length ≤ 100) := by
  unfold retargetref04_Great.f
  have last : ∀ i : Int, ∃ r, Ev (fun k => retargetref04_Great.j1 k i false a b c) r ∧ (r = false → a.length ≤ 600 ∧ b.length ≤ 100100 ∧ c.length ≤ 100) := by
    intro i
    by_cases h : a.length ≤ 600 ∧ b.length ≤ 100100 ∧ c.length ≤ 100
    · refine ⟨false, ?_, fun _ => h⟩
      refine Ev.step (fun k => by rw [retargetref04_Great.j1]) (ev_neg (by decide) (ev_neg (by omega) (ev_neg (by omega) (ev_now (decide_eq_false (by omega))))))
    · refine ⟨true, ?_, fun h => by cases h⟩
      refine Ev.step (fun k => by rw [retargetref04_Great.j1]) (ev_neg (by decide) (ev_if (fun _ => ev_now rfl) (fun _ => ev_if (fun _ => ev_now rfl) (fun _ => ev_now (decide_eq_true (by omega))))))
  refine ev_loop_ex (g := fun k i => retargetref04_Great.l0 k i a b c) (a.length : Int) (fun r => r = false → a.length ≤ 600 ∧ b.length ≤ 100100 ∧ c.length ≤ 100) ?_ ?_ 0 (by omega) (by omega)
  · intro i h0 h1 ⟨r, hr, hq⟩
    by_cases h : i ≤ 600
    · by_cases hb : ((rd_T44 a i).f0.size : Int) > 200
      · refine ⟨true, ?_, fun h => by cases h⟩
        refine Ev.step (fun k => by rw [retargetref04_Great.l0]) (ev_pos h1 ?_)
        rw [decide_eq_true h]
        exact Ev.step (fun k => by rw [retargetref04_Great.j1]) (ev_pos rfl (ev_pos h0 (ev_pos h1 (ev_pos hb (ev_now rfl)))))
      · refine ⟨r, ?_, hq⟩
        refine Ev.step (fun k => by rw [retargetref04_Great.l0]) (ev_pos h1 ?_)
        rw [decide_eq_true h]
        refine Ev.step (fun k => by rw [retargetref04_Great.j1]) (ev_pos rfl (ev_pos h0 (ev_pos h1 (ev_neg hb ?_))))
        rw [wrap_id (n := i + 1) (by omega) (by omega)]
        exact hr
    · obtain ⟨r, hr, hq⟩ := last i
      refine ⟨r, ?_, hq⟩
      refine Ev.step (fun k => by rw [retargetref04_Great.l0]) (ev_pos h1 ?_)
      rw [decide_eq_false h]
      exact hr
  · obtain ⟨r, hr, hq⟩ := last (a.length : Int)
    refine ⟨r, ?_, hq⟩
    exact Ev.step (fun k => by rw [retargetref04_Great.l0]) (ev_neg (by omega) hr)
/-- The signed atom of a literal. -/
def lit (x : Int) : Int := if Int.tmod x 2 = 1 then wrap64 (-(wrap64 (wrap64 (Int.tdiv x 2) + 1))) else wrap64 (wrap64 (Int.tdiv x 2) + 1)
theorem literal_eq (x : Int) : blast_literal.f x = some (lit x) := by unfold blast_literal.f lit; split <;> rfl
/-- The clauses of d gates from gate i on. -/
def gates (n : Nat) (l : List S49) : Nat → Int → List (List Int)
  | 0, _ => []
  | d + 1, i => [[-(2 + n + i), lit (rd_T49 l i).f0], [-(2 + n + i), lit (rd_T49 l i).f1], [2 + n + i, wrap64 (-lit (rd_T49 l i).f0), wrap64 (-lit (rd_T49 l i).f1)]] ++ gates n l d (i + 1)
theorem gates_length (n : Nat) (l : List S49) : ∀ (d : Nat) (i : Int), (gates n l d i).length = 3 * d
  | 0, _ => rfl
  | d + 1, i => by rw [gates, List.length_append, gates_length n l d]; simp; omega
/-- What the loop of the clauses comes to. -/
theorem ev_clauses (a : List S44) (b : List S49) (c : List Int) (o : Int) (ha : a.length ≤ 600) (hn : 1 + a.length + b.length ≤ 5000) (h0 : 0 ≤ o) (h1 : o < c.length) (n : Int) :
    ∀ (d : Nat) (i : Int) (acc : List (List Int)), 0 ≤ i → (b.length : Int) - i = d → acc.length = 1 + 3 * i.toNat →
      Ev (fun k => blast_Clauses.l0 k o n acc b (b.length : Int) i a b c) (n, acc ++ gates a.length b d i ++ [[lit (rd c o)]], (0 : Int)) := by
  intro d
  induction d with
  | zero =>
    intro i acc hi hd hl
    refine Ev.step (fun k => by rw [blast_Clauses.l0]) (ev_neg (by omega) (ev_pos h0 (ev_pos h1 (ev_bindc (literal_eq _) ?_))))
    refine ev_pos (by omega) (ev_now ?_)
    simp [gates]
  | succ d ih =>
    intro i acc hi hd hl
    have hw : wrap64 (wrap64 (2 + (a.length : Int)) + i) = 2 + a.length + i := by rw [wrap_id (n := 2 + (a.length : Int)) (by omega) (by omega), wrap_id (by omega) (by omega)]
    refine Ev.step (fun k => by rw [blast_Clauses.l0]) (ev_pos (by omega) (ev_pos hi (ev_pos (by omega) (ev_bindc (literal_eq _) (ev_bindc (literal_eq _) (ev_some ?_))))))
    refine ev_pos (by simp; omega) ?_
    rw [hw, wrap_id (n := -(2 + (a.length : Int) + i)) (by omega) (by omega), wrap_id (n := i + 1) (by omega) (by omega)]
    refine ev_eq (ih (i + 1) _ (by omega) (by omega) (by simp; omega)) ?_
    simp only [gates, List.append_assoc]
/-- What Clauses answers. -/
noncomputable def spec (a : List S44) (b : List S49) (c : List Int) (o : Int) : Int × List (List Int) × Int :=
  if chk a b c = 0 then (if o < 0 ∨ c.length ≤ o then (0, [], 2) else if 1 + a.length + b.length > 5000 then (0, [], 4) else (1 + a.length + b.length, [[-1]] ++ gates a.length b b.length 0 ++ [[lit (rd c o)]], 0))
  else (0, [], chk a b c)
theorem blastClauses (a : List S44) (b : List S49) (c : List Int) (o : Int) (ha : ∀ x ∈ a, x.f0.size ≤ 140737488351232) (hl : a.length ≤ 600) (hb : b.length ≤ 100100) : Ev (fun k => blast_Clauses.f k a b c o) (spec a b c o) := by
  unfold blast_Clauses.f spec
  refine Ev.bind (ev_check a b c ha) ?_
  by_cases h : chk a b c = 0
  · rw [if_pos h]
    refine ev_pos h ?_
    have arg : (o < 0 ∨ c.length ≤ o) → ∀ x, x = true → Ev (fun k => blast_Clauses.j0 k o ([] : List (List Int)) x a b c) ((0 : Int), ([] : List (List Int)), (2 : Int)) := fun _ x hx => by
      subst hx
      exact Ev.step (fun k => by rw [blast_Clauses.j0]) (ev_pos rfl (ev_now rfl))
    by_cases ho : o < 0 ∨ c.length ≤ o
    · rw [if_pos ho]
      exact ev_if (fun _ => arg ho _ rfl) (fun _ => arg ho _ (decide_eq_true (by omega)))
    · rw [if_neg ho]
      refine ev_neg (by omega) ?_
      have hw : wrap64 (wrap64 (1 + (a.length : Int)) + b.length) = 1 + a.length + b.length := by rw [wrap_id (n := 1 + (a.length : Int)) (by omega) (by omega), wrap_id (by omega) (by omega)]
      refine Ev.step (fun k => by rw [blast_Clauses.j0]) (ev_neg (by rw [decide_eq_true_eq]; omega) ?_)
      rw [hw]
      by_cases hn : 1 + a.length + b.length > 5000
      · rw [if_pos hn]
        exact ev_pos (by omega) (ev_now rfl)
      · rw [if_neg hn]
        refine ev_neg (by omega) (ev_pos (by simp) ?_)
        exact ev_clauses a b c o hl (by omega) (by omega) (by omega) _ b.length 0 _ (by omega) (by omega) (by simp)
  · rw [if_neg h]
    exact ev_neg h (ev_now rfl)
theorem spec_rows (a : List S44) (b : List S49) (c : List Int) (o : Int) : (spec a b c o).2.1.length ≤ 15002 ∧ ∀ x ∈ (spec a b c o).2.1, x.length ≤ 3 := by
  have hg : ∀ (n : Nat) (d : Nat) (i : Int), ∀ x ∈ gates n b d i, x.length ≤ 3 := by
    intro n d
    induction d with
    | zero => intro i x hx; simp [gates] at hx
    | succ d ih =>
      intro i x hx
      rw [gates, List.mem_append] at hx
      rcases hx with hx | hx
      · simp at hx
        rcases hx with rfl | rfl | rfl <;> simp
      · exact ih _ x hx
  unfold spec
  split
  · split
    · exact ⟨by simp, fun x hx => by simp at hx⟩
    · split
      · exact ⟨by simp, fun x hx => by simp at hx⟩
      · refine ⟨?_, fun x hx => ?_⟩
        · simp only [List.length_append, gates_length, List.length_cons, List.length_nil]; omega
        · simp only [List.mem_append, List.mem_cons, List.not_mem_nil, or_false] at hx
          rcases hx with (rfl | hx) | rfl
          · simp
          · exact hg _ _ _ x hx
          · simp
  · exact ⟨by simp, fun x hx => by simp at hx⟩
theorem chk_zero {a : List S44} {b : List S49} {c : List Int} (h : chk a b c = 0) : (a.length ≤ 512 ∧ b.length ≤ 100000 ∧ c.length ≤ 64) ∧ (∀ j : Int, 0 ≤ j → j < a.length → inOk a j) ∧
    (∀ j : Int, 0 ≤ j → j < b.length → gateOk a.length b j) ∧ (∀ j : Int, 0 ≤ j → j < c.length → outOk (1 + a.length + b.length) c j) := by
  unfold chk at h
  split at h
  · cases h
  · split at h
    · split at h
      · split at h
        · rename_i h1 h2 h3 h4
          exact ⟨by omega, h2, h3, h4⟩
        · cases h
      · cases h
    · cases h
/-- The value of a literal. -/
def val (v : List Bool) (l : Int) : Bool := rdOf false v (l / 2) != (Int.tmod l 2 == 1)
theorem at_eq (v : List Bool) (l : Int) (hv : v.length ≤ 200000) (h0 : 0 ≤ l) (h1 : l < 2 * v.length) : at_ v l = some (val v l) := by
  unfold at_ val
  rw [Int.tdiv_eq_ediv_of_nonneg h0, wrap_id (n := l / 2) (by omega) (by omega), if_pos (by omega), if_pos (by omega)]
theorem lit_eq (v : List Bool) (l : Int) (hv : v.length ≤ 200000) (h0 : 0 ≤ l) (h1 : l < 2 * v.length) : retargetref04_Lit.f v l = some (val v l) := by
  unfold retargetref04_Lit.f val
  rw [Int.tdiv_eq_ediv_of_nonneg h0, wrap_id (n := l / 2) (by omega) (by omega)]
  by_cases h : Int.tmod l 2 = 1
  · rw [if_pos h, if_pos (by omega), if_pos (by omega), h]
    simp
  · rw [if_neg h, if_pos (by omega), if_pos (by omega)]
    have : (Int.tmod l 2 == 1) = false := by simpa using h
    rw [this]
    simp
/-- The values of all nodes. -/
def run (v : List Bool) : List S49 → List Bool
  | [] => v
  | g :: gs => run (v ++ [if val v g.f0 = true then val v g.f1 else false]) gs
theorem run_length : ∀ (gs : List S49) (v : List Bool), (run v gs).length = v.length + gs.length
  | [], v => by simp [run]
  | g :: gs, v => by rw [run, run_length gs]; simp; omega
/-- The gates' literals stay below what stands. -/
def fine : Nat → List S49 → Prop
  | _, [] => True
  | m, g :: gs => (0 ≤ g.f0 ∧ g.f0 < 2 * m ∧ 0 ≤ g.f1 ∧ g.f1 < 2 * m) ∧ fine (m + 1) gs
theorem rd54_succ (g : S49) (gs : List S49) (j : Int) (h : 0 ≤ j) : rd_T49 (g :: gs) (j + 1) = rd_T49 gs j := by
  unfold rd_T49
  rw [show (j + 1).toNat = j.toNat + 1 by omega]
  rfl
theorem fine_of : ∀ (b : List S49) (n : Nat), (∀ j : Int, 0 ≤ j → j < b.length → gateOk n b j) → fine (1 + n) b
  | [], _, _ => trivial
  | g :: gs, n, h => by
    refine ⟨?_, ?_⟩
    · have := h 0 (by omega) (by simp <;> omega)
      unfold gateOk at this
      have e : rd_T49 (g :: gs) 0 = g := rfl
      rw [e] at this
      omega
    · have := fine_of gs (n + 1) (fun j h0 h1 => by
        have := h (j + 1) (by omega) (by simp; omega)
        unfold gateOk at this ⊢
        rw [rd54_succ _ _ _ h0] at this
        omega)
      rw [show 1 + n + 1 = 1 + (n + 1) by omega]
      exact this
theorem gates_eq : ∀ (gs : List S49) (v : List Bool), v.length + gs.length ≤ 200000 → fine v.length gs → gates_ v gs = some (run v gs)
  | [], v, _, _ => rfl
  | g :: gs, v, hl, hf => by
    obtain ⟨⟨h0, h1, h2, h3⟩, hf⟩ := hf
    simp only [List.length_cons] at hl
    rw [gates_, at_eq v g.f0 (by omega) h0 h1, Option.bind_some, run]
    have e : (if val v g.f0 = true then at_ v g.f1 else some false) = some (if val v g.f0 = true then val v g.f1 else false) := by
      split
      · exact at_eq v g.f1 (by omega) h2 h3
      · rfl
    rw [e, Option.bind_some, if_pos (by omega)]
    exact gates_eq gs _ (by simp; omega) (by simpa using hf)
theorem drop54 (b : List S49) (i : Nat) (h : i < b.length) : b.drop i = rd_T49 b i :: b.drop (i + 1) := by
  rw [List.drop_eq_getElem_cons h]
  simp [rd_T49, List.getD_eq_getElem?_getD, h]
theorem ev_nodes (a : List S44) (b : List S49) (c : List Int) : ∀ (d : Nat) (i : Nat) (v : List Bool), b.length - i = d → i ≤ b.length → v.length + d ≤ 200000 → b.length ≤ 200000 → fine v.length (b.drop i) →
    Ev (fun k => retargetref04_Nodes.l0 k v (i : Int) a b c) (run v (b.drop i)) := by
  intro d
  induction d with
  | zero =>
    intro i v hd hi hl hb hf
    rw [List.drop_eq_nil_of_le (by omega)]
    refine Ev.step (fun k => by rw [retargetref04_Nodes.l0]) ?_
    exact ev_neg (by omega) (ev_now rfl)
  | succ d ih =>
    intro i v hd hi hl hb hf
    rw [drop54 b i (by omega)] at hf ⊢
    obtain ⟨⟨h0, h1, h2, h3⟩, hf⟩ := hf
    refine Ev.step (fun k => by rw [retargetref04_Nodes.l0]) (ev_pos (by omega) (ev_pos (by omega) (ev_bindc (lit_eq v _ (by omega) h0 h1) ?_)))
    rw [run, wrap_id (n := (i : Int) + 1) (by omega) (by omega)]
    refine ev_if (fun h => ev_bindc (lit_eq v _ (by omega) h2 h3) (ev_pos (by omega) ?_)) (fun h => ev_pos (by omega) ?_)
    · rw [if_pos h]
      exact ih (i + 1) _ (by omega) (by omega) (by simp; omega) hb (by simpa using hf)
    · rw [if_neg h]
      exact ih (i + 1) _ (by omega) (by omega) (by simp; omega) hb (by simpa using hf)
theorem outs_eq (v : List Bool) (hv : v.length ≤ 200000) : ∀ (os : List Int) (acc : List Bool), acc.length + os.length ≤ 200000 → (∀ o ∈ os, 0 ≤ o ∧ o < 2 * v.length) → outs_ v acc os = some (acc ++ os.map (val v))
  | [], acc, _, _ => by simp [outs_]
  | o :: os, acc, hl, hf => by
    simp only [List.length_cons] at hl
    have ho := hf o (by simp)
    rw [outs_, at_eq v o hv ho.1 ho.2, Option.bind_some, if_pos (by omega), outs_eq v hv os _ (by simp; omega) (fun x hx => hf x (by simp [hx]))]
    simp
theorem dropI (c : List Int) (i : Nat) (h : i < c.length) : c.drop i = rd c i :: c.drop (i + 1) := by
  rw [List.drop_eq_getElem_cons h]
  simp [rd, List.getD_eq_getElem?_getD, h]
end Go.Proofs.YtjopdafckhkmmaaDoor.PureS
