/- BlastSatisfied over lists: the nodes' values satisfy the clauses if and only if the output is true, and no other value of a single gate does. No condition beyond the row's own. -/
import Derived.Test.YtjopdafckhkmmaaDoorCBSatPureSatA
set_option linter.unusedVariables false
namespace Go.Proofs.YtjopdafckhkmmaaDoor.PureS
open Go.RowKit Go.Proofs.YtjopdafckhkmmaaDoor.MBS Go.Proofs.YtjopdafckhkmmaaDoorW.PrintWords Go.Proofs.YtjopdafckhkmmaaDoorW.PrintLast Go.Proofs.YtjopdafckhkmmaaDoorW.PrintMore Go.Proofs.YtjopdafckhkmmaaDoor.Evl
open Classical

theorem blastRun (a : List S44) (b : List S49) (c : List Int) (m : List Bool) (ha : ∀ x ∈ a, x.f0.size ≤ 140737488351232) (hc : c.length ≤ 100) (hm : m.length ≤ 700) :
    (chk a b c = 0 ∧ m.length = a.length ∧ Ev (fun k => blast_Run.f k a b c m) (c.map (val (run ([false] ++ m) b)), 0)) ∨ (∃ r : List Bool × Int, Ev (fun k => blast_Run.f k a b c m) r ∧ r.2 ≠ 0) := by
  by_cases h : chk a b c = 0
  · obtain ⟨⟨la, lb, lc⟩, hin, hgate, hout⟩ := chk_zero h
    by_cases hl : m.length = a.length
    · refine .inl ⟨h, hl, ?_⟩
      have hf : fine ([false] ++ m).length b := by
        have := fine_of b a.length hgate
        rw [← hl] at this
        simpa [Nat.add_comm] using this
      have hlen : (run ([false] ++ m) b).length = 1 + a.length + b.length := by rw [run_length]; simp; omega
      unfold blast_Run.f
      refine Ev.bind (ev_check a b c ha) (ev_pos h (ev_pos hl (ev_pos (by omega) (ev_bindc (gates_eq b _ (by simp; omega) hf) (ev_bindc (outs_eq _ (by omega) c [] (by simp; omega) (fun o ho => ?_)) (ev_now ?_))))))
      · obtain ⟨i, hi, rfl⟩ := List.mem_iff_getElem.mp ho
        have := hout i (by omega) (by omega)
        unfold outOk at this
        have e : rd c (i : Int) = c[i] := by simp [rd, List.getD_eq_getElem?_getD, hi]
        rw [e] at this
        rw [hlen]
        omega
      · simp
    · refine .inr ⟨([], 2), ?_, by simp⟩
      unfold blast_Run.f
      exact Ev.bind (ev_check a b c ha) (ev_pos h (ev_neg hl (ev_now rfl)))
  · refine .inr ⟨([], chk a b c), ?_, h⟩
    unfold blast_Run.f
    exact Ev.bind (ev_check a b c ha) (ev_neg h (ev_now rfl))
theorem nodes_eq (a : List S44) (b : List S49) (c : List Int) (m : List Bool) (h : chk a b c = 0) (hl : m.length = a.length) : Ev (fun k => retargetref04_Nodes.f k a b c m) (run ([false] ++ m) b) := by
  obtain ⟨⟨la, lb, lc⟩, hin, hgate, hout⟩ := chk_zero h
  have hf : fine ([false] ++ m).length b := by
    have := fine_of b a.length hgate
    rw [← hl] at this
    simpa [Nat.add_comm] using this
  unfold retargetref04_Nodes.f
  refine ev_some (ev_pos (by simp <;> omega) ?_)
  exact ev_nodes a b c b.length 0 _ (by omega) (by omega) (by simp; omega) (by omega) (by simpa using hf)

/-- An atom's value: out of range satisfies none. -/
def atomV (v : List Bool) (x : Int) : Bool :=
  if x > 0 then (if x ≤ v.length then rdOf false v (x - 1) else false) else if x < 0 then (if x ≥ -(v.length : Int) then !rdOf false v (-x - 1) else false) else false
def satS (cl : List (List Int)) (v : List Bool) : Bool := cl.all fun c => c.any (atomV v)
theorem j2_ev (cl : List (List Int)) (v : List Bool) (hv : v.length ≤ 200000) (i : Int) (some_ : Bool) (j : Int) (x : Int) (hx : -1000000 ≤ x ∧ x ≤ 1000000) (hj : 0 ≤ j ∧ j ≤ 100) (r : Bool)
    (h : Ev (fun k => retargetlaw04_satisfied.l1 k cl v i (some_ || atomV v x) (j + 1)) r) :
    Ev (fun k => retargetlaw04_satisfied.j2 k cl v i some_ j x (if x > 0 then decide (x ≤ (v.length : Int)) else false)) r := by
  have hw1 : wrap64 (x - 1) = x - 1 := wrap_id (by omega) (by omega)
  have hw2 : wrap64 (-x) = -x := wrap_id (by omega) (by omega)
  have hw3 : wrap64 (-x - 1) = -x - 1 := wrap_id (by omega) (by omega)
  have hw4 : wrap64 (-(v.length : Int)) = -(v.length : Int) := wrap_id (by omega) (by omega)
  have hw5 : wrap64 (j + 1) = j + 1 := wrap_id (by omega) (by omega)
  refine Ev.step (fun k => by rw [retargetlaw04_satisfied.j2]) ?_
  simp only [hw1, hw2, hw3, hw4, hw5]
  unfold atomV at h
  by_cases h0 : x > 0
  · rw [if_pos h0] at h
    rw [if_pos h0]
    by_cases h1 : x ≤ (v.length : Int)
    · rw [if_pos h1] at h
      rw [decide_eq_true h1]
      have hn : ¬ x < 0 := by omega
      refine ev_pos rfl ?_
      cases some_ with
      | true =>
        refine ev_pos rfl (ev_neg hn ?_)
        simpa using h
      | false =>
        refine ev_neg (by decide) (ev_pos (by omega) (ev_pos (by omega) (ev_neg hn ?_)))
        simpa using h
    · rw [if_neg h1] at h
      rw [decide_eq_false h1]
      have hn : ¬ x < 0 := by omega
      refine ev_neg (by decide) (ev_neg hn ?_)
      simpa using h
  · rw [if_neg h0] at h
    rw [if_neg h0]
    refine ev_neg (by decide) ?_
    by_cases h2 : x < 0
    · rw [if_pos h2] at h
      by_cases h3 : x ≥ -(v.length : Int)
      · rw [if_pos h3] at h
        refine ev_pos h2 (ev_pos h3 ?_)
        cases some_ with
        | true => exact ev_pos rfl (by simpa using h)
        | false => exact ev_neg (by decide) (ev_pos (by omega) (ev_pos (by omega) (by simpa using h)))
      · rw [if_neg h3] at h
        refine ev_pos h2 (ev_neg h3 ?_)
        simpa using h
    · rw [if_neg h2] at h
      refine ev_neg h2 ?_
      simpa using h
theorem row_ev (cl : List (List Int)) (v : List Bool) (hv : v.length ≤ 200000) (i : Int) (h0 : 0 ≤ i) (h1 : i < cl.length) (hi : i ≤ 1000000) (hl : (rd_L9 cl i).length ≤ 100) (hx : ∀ x ∈ rd_L9 cl i, -1000000 ≤ x ∧ x ≤ 1000000) (R : Bool) (hR : Ev (fun k => retargetlaw04_satisfied.l0 k cl v (i + 1)) R) :
    ∀ (d : Nat) (j : Nat) (s : Bool), (rd_L9 cl i).length - j = d → j ≤ (rd_L9 cl i).length → Ev (fun k => retargetlaw04_satisfied.l1 k cl v i s (j : Int)) (if (s || ((rd_L9 cl i).drop j).any (atomV v)) = true then R else false) := by
  intro d
  induction d with
  | zero =>
    intro j s hd hj
    rw [List.drop_eq_nil_of_le (by omega)]
    refine Ev.step (fun k => by rw [retargetlaw04_satisfied.l1]) (ev_pos h0 (ev_pos h1 (ev_neg (by omega) ?_)))
    rw [wrap_id (n := i + 1) (by omega) (by omega)]
    simp only [List.any_nil, Bool.or_false]
    cases s with
    | true => exact ev_pos rfl (by simpa using hR)
    | false => exact ev_neg (by decide) (ev_now (by simp))
  | succ d ih =>
    intro j s hd hj
    have hlt : j < (rd_L9 cl i).length := by omega
    have hm : rd (rd_L9 cl i) (j : Int) ∈ rd_L9 cl i := by
      have : rd (rd_L9 cl i) (j : Int) = (rd_L9 cl i)[j] := by simp [rd, List.getD_eq_getElem?_getD, hlt]
      rw [this]
      exact List.getElem_mem hlt
    have hd' : (rd_L9 cl i).drop j = rd (rd_L9 cl i) (j : Int) :: (rd_L9 cl i).drop (j + 1) := by
      rw [List.drop_eq_getElem_cons hlt]
      simp [rd, List.getD_eq_getElem?_getD, hlt]
    rw [hd', List.any_cons, ← Bool.or_assoc]
    have hh := j2_ev cl v hv i s j (rd (rd_L9 cl i) (j : Int)) (hx _ hm) ⟨by omega, by omega⟩ _ (by
      have := ih (j + 1) (s || atomV v (rd (rd_L9 cl i) (j : Int))) (by omega) (by omega)
      rw [show ((j + 1 : Nat) : Int) = (j : Int) + 1 by omega] at this
      exact this)
    refine Ev.step (fun k => by rw [retargetlaw04_satisfied.l1]) (ev_pos h0 (ev_pos h1 (ev_pos (by omega) (ev_pos (by omega) ?_))))
    by_cases hp : rd (rd_L9 cl i) (j : Int) > 0
    · rw [if_pos hp] at hh
      exact ev_pos hp hh
    · rw [if_neg hp] at hh
      exact ev_neg hp hh
theorem sat_ev (cl : List (List Int)) (v : List Bool) (hv : v.length ≤ 200000) (hc : cl.length ≤ 100000) (hr : ∀ c ∈ cl, c.length ≤ 100 ∧ ∀ x ∈ c, -1000000 ≤ x ∧ x ≤ 1000000) : Ev (fun k => retargetlaw04_satisfied.f k cl v) (satS cl v) := by
  unfold retargetlaw04_satisfied.f
  have key : ∀ (d : Nat) (i : Nat), cl.length - i = d → i ≤ cl.length → Ev (fun k => retargetlaw04_satisfied.l0 k cl v (i : Int)) (satS (cl.drop i) v) := by
    intro d
    induction d with
    | zero =>
      intro i hd hi
      rw [List.drop_eq_nil_of_le (by omega)]
      refine Ev.step (fun k => by rw [retargetlaw04_satisfied.l0]) ?_
      exact ev_neg (by omega) (ev_now rfl)
    | succ d ih =>
      intro i hd hi
      have hlt : i < cl.length := by omega
      have e : rd_L9 cl (i : Int) = cl[i] := by simp [rd_L9, List.getD_eq_getElem?_getD, hlt]
      have hm := hr cl[i] (List.getElem_mem hlt)
      have := row_ev cl v hv (i : Int) (by omega) (by omega) (by omega) (by rw [e]; exact hm.1) (by rw [e]; exact hm.2) (satS (cl.drop (i + 1)) v) (by
        have := ih (i + 1) (by omega) (by omega)
        rw [show ((i + 1 : Nat) : Int) = (i : Int) + 1 by omega] at this
        exact this) _ 0 false rfl (Nat.zero_le _)
      refine Ev.step (fun k => by rw [retargetlaw04_satisfied.l0]) (ev_pos (by omega) ?_)
      refine ev_eq this ?_
      rw [e, List.drop_eq_getElem_cons hlt]
      simp only [satS, List.all_cons, Bool.false_or, List.drop_zero]
      cases h : List.any cl[i] (atomV v) <;> simp
  exact key cl.length 0 (by omega) (by omega)

theorem rdOf_nat {v : List Bool} {i : Nat} : rdOf false v (i : Int) = v.getD i false := rfl
theorem atom_own {v : List Bool} {n : Nat} (h : n < v.length) : atomV v ((n : Int) + 1) = v.getD n false ∧ atomV v (-((n : Int) + 1)) = !v.getD n false := by
  unfold atomV
  have e : ∀ x : Int, x = n → rdOf false v x = v.getD n false := fun x hx => by rw [hx]; rfl
  constructor
  · rw [if_pos (by omega), if_pos (by omega)]
    exact e _ (by omega)
  · rw [if_neg (by omega), if_pos (by omega), if_pos (by omega)]
    rw [e _ (by omega)]
theorem val_nat {v : List Bool} {l : Int} (h0 : 0 ≤ l) : val v l = (v.getD (l / 2).toNat false != (l % 2 == 1)) := by
  unfold val
  rw [Int.tmod_eq_emod_of_nonneg h0]
  rfl
theorem lit_nat {l : Int} (h0 : 0 ≤ l) (h1 : l ≤ 1000000) : lit l = if l % 2 = 1 then -(((l / 2).toNat : Int) + 1) else ((l / 2).toNat : Int) + 1 := by
  unfold lit
  rw [Int.tdiv_eq_ediv_of_nonneg h0, Int.tmod_eq_emod_of_nonneg h0, wrap_id (n := l / 2) (by omega) (by omega), wrap_id (n := l / 2 + 1) (by omega) (by omega), wrap_id (n := -(l / 2 + 1)) (by omega) (by omega)]
  split <;> omega
theorem lit_rng {l : Int} (h0 : 0 ≤ l) (h1 : l ≤ 1000000) : -1000000 ≤ lit l ∧ lit l ≤ 1000000 ∧ wrap64 (-lit l) = -lit l := by
  have := lit_nat h0 h1
  refine ⟨?_, ?_, wrap_id ?_ ?_⟩ <;> (rw [this]; split <;> omega)
theorem atom_lit {v : List Bool} {l : Int} (h0 : 0 ≤ l) (h1 : l < 2 * v.length) (h2 : l ≤ 1000000) : atomV v (lit l) = val v l ∧ atomV v (-lit l) = !val v l := by
  obtain ⟨a, b⟩ := atom_own (v := v) (n := (l / 2).toNat) (by omega)
  rw [lit_nat h0 h2, val_nat h0]
  split
  · rename_i h
    rw [b, Int.neg_neg, a, h]
    constructor <;> cases v.getD (l / 2).toNat false <;> rfl
  · rename_i h
    have e : (l % 2 == 1) = false := by simpa using h
    rw [a, b, e]
    constructor <;> cases v.getD (l / 2).toNat false <;> rfl
/-- A gate holds. -/
def okG (v : List Bool) (n : Nat) (b : List S49) (j : Nat) : Bool := v.getD (1 + n + j) false == (val v (rd_T49 b j).f0 && val v (rd_T49 b j).f1)
theorem gates_sat (v : List Bool) (n : Nat) (b : List S49) (hn : n ≤ 1000) (hb : b.length ≤ 5000) (hv : v.length = 1 + n + b.length) (hg : ∀ j : Nat, j < b.length → 0 ≤ (rd_T49 b j).f0 ∧ (rd_T49 b j).f0 < 2 * (1 + n + j : Nat) ∧ 0 ≤ (rd_T49 b j).f1 ∧ (rd_T49 b j).f1 < 2 * (1 + n + j : Nat)) :
    ∀ (d i : Nat), i + d = b.length → satS (gates n b d (i : Int)) v = (List.range d).all fun j => okG v n b (i + j)
  | 0, i, _ => rfl
  | d + 1, i, hd => by
    have ih := gates_sat v n b hn hb hv hg d (i + 1) (by omega)
    rw [show ((i + 1 : Nat) : Int) = (i : Int) + 1 by omega] at ih
    obtain ⟨g0, g1, g2, g3⟩ := hg i (by omega)
    have o := atom_own (v := v) (n := 1 + n + i) (by omega)
    rw [show ((1 + n + i : Nat) : Int) + 1 = 2 + n + i by omega] at o
    have a := atom_lit (v := v) (l := (rd_T49 b i).f0) g0 (by omega) (by omega)
    have c := atom_lit (v := v) (l := (rd_T49 b i).f1) g2 (by omega) (by omega)
    rw [gates]
    have hs : ∀ l m : List (List Int), satS (l ++ m) v = (satS l v && satS m v) := fun l m => by simp [satS]
    rw [hs, ih, List.range_succ_eq_map, List.all_cons, List.all_map]
    congr 1
    · simp only [satS, List.all_cons, List.all_nil, List.any_cons, List.any_nil, Bool.or_false, Bool.and_true, (lit_rng g0 (by omega)).2.2, (lit_rng g2 (by omega)).2.2, o.1, o.2, a.1, a.2, c.1, c.2, okG, Nat.add_zero]
      cases v.getD (1 + n + i) false <;> cases val v (rd_T49 b i).f0 <;> cases val v (rd_T49 b i).f1 <;> rfl
    · congr 1
      funext j
      show okG v n b (i + 1 + j) = okG v n b (i + (j + 1))
      rw [Nat.add_right_comm, Nat.add_assoc]
theorem run_take : ∀ (gs : List S49) (v : List Bool) (i : Nat), i < v.length → (run v gs).getD i false = v.getD i false
  | [], v, i, _ => rfl
  | g :: gs, v, i, h => by
    rw [run, run_take gs _ i (by simp; omega)]
    simp [List.getD_eq_getElem?_getD, List.getElem?_append_left h]
theorem run_val (gs : List S49) (v : List Bool) (l : Int) (h0 : 0 ≤ l) (h1 : l < 2 * v.length) : val (run v gs) l = val v l := by
  rw [val_nat h0, val_nat h0, run_take gs v _ (by omega)]
theorem run_gate : ∀ (gs : List S49) (v : List Bool) (j : Nat), j < gs.length → fine v.length gs → (run v gs).getD (v.length + j) false = (val (run v gs) (rd_T49 gs j).f0 && val (run v gs) (rd_T49 gs j).f1)
  | [], v, j, h, _ => by simp at h
  | g :: gs, v, j, h, hf => by
    obtain ⟨⟨h0, h1, h2, h3⟩, hf⟩ := hf
    cases j with
    | zero =>
      have e : rd_T49 (g :: gs) ((0 : Nat) : Int) = g := rfl
      rw [e, run_val _ _ _ h0 h1, run_val _ _ _ h2 h3, run, run_take _ _ _ (by simp)]
      simp [List.getD_eq_getElem?_getD]
    | succ j =>
      have ih := run_gate gs (v ++ [if val v g.f0 = true then val v g.f1 else false]) j (by simp at h; omega) (by simpa using hf)
      have e : rd_T49 (g :: gs) ((j + 1 : Nat) : Int) = rd_T49 gs (j : Int) := by
        rw [show ((j + 1 : Nat) : Int) = (j : Int) + 1 by omega]
        exact rd54_succ g gs j (by omega)
      rw [e, run]
      rw [List.length_append] at ih
      simp only [List.length_cons, List.length_nil] at ih
      rw [show v.length + (j + 1) = v.length + (0 + 1) + j by omega]
      exact ih
/-- The clauses over any values of the nodes. -/
theorem clauses_sat (a : List S44) (b : List S49) (c : List Int) (o : Int) (h : chk a b c = 0) (hb : b.length ≤ 2000) (ho : 0 ≤ o ∧ o < c.length) (w : List Bool) (hw : w.length = 1 + a.length + b.length) :
    satS ([[-1]] ++ gates a.length b b.length 0 ++ [[lit (rd c o)]]) w = (!w.getD 0 false && ((List.range b.length).all fun j => okG w a.length b j) && val w (rd c o)) := by
  obtain ⟨⟨la, lb, lc⟩, hin, hgate, hout⟩ := chk_zero h
  have h1 := gates_sat w a.length b (by omega) (by omega) hw (fun j hj => by
    have := hgate j (by omega) (by omega)
    unfold gateOk at this
    omega) b.length 0 (by omega)
  have h2 := hout o ho.1 ho.2
  unfold outOk at h2
  have h3 := (atom_lit (v := w) (l := rd c o) h2.1 (by omega) (by omega)).1
  have hs : ∀ l m : List (List Int), satS (l ++ m) w = (satS l w && satS m w) := fun l m => by simp [satS]
  have h0 := (atom_own (v := w) (n := 0) (by omega)).2
  rw [hs, hs, show ((0 : Nat) : Int) = 0 from rfl] at *
  rw [h1]
  simp only [satS, List.all_cons, List.all_nil, List.any_cons, List.any_nil, Bool.or_false, Bool.and_true, h3, Nat.zero_add]
  congr 2
theorem nodes_ok (a : List S44) (b : List S49) (c : List Int) (m : List Bool) (h : chk a b c = 0) (hl : m.length = a.length) :
    (run ([false] ++ m) b).length = 1 + a.length + b.length ∧ (run ([false] ++ m) b).getD 0 false = false ∧ ∀ j, j < b.length → okG (run ([false] ++ m) b) a.length b j = true := by
  obtain ⟨⟨la, lb, lc⟩, hin, hgate, hout⟩ := chk_zero h
  have hf : fine ([false] ++ m).length b := by
    have := fine_of b a.length hgate
    rw [← hl] at this
    simpa [Nat.add_comm] using this
  refine ⟨by rw [run_length]; simp; omega, by rw [run_take _ _ _ (by simp)]; rfl, fun j hj => ?_⟩
  have := run_gate b ([false] ++ m) j hj hf
  unfold okG
  rw [show ([false] ++ m).length + j = 1 + a.length + j by simp; omega] at this
  rw [this]
  simp
/-- A gate whose value is turned does not hold. -/
theorem flip_bad (a : List S44) (b : List S49) (c : List Int) (v : List Bool) (h : chk a b c = 0) (hv : v.length = 1 + a.length + b.length) (j : Nat) (hj : j < b.length) (hok : okG v a.length b j = true) :
    okG (v.set (1 + a.length + j) (!v.getD (1 + a.length + j) false)) a.length b j = false := by
  obtain ⟨⟨la, lb, lc⟩, hin, hgate, hout⟩ := chk_zero h
  have hg := hgate j (by omega) (by omega)
  unfold gateOk at hg
  have hval : ∀ l : Int, 0 ≤ l → l < 2 * (1 + a.length + j : Nat) → val (v.set (1 + a.length + j) (!v.getD (1 + a.length + j) false)) l = val v l := fun l h0 h1 => by
    rw [val_nat h0, val_nat h0]
    congr 1
    simp only [List.getD_eq_getElem?_getD]
    rw [List.getElem?_set_ne (by omega)]
  unfold okG at hok ⊢
  rw [hval _ (by omega) (by omega), hval _ (by omega) (by omega)]
  have e : (v.set (1 + a.length + j) (!v.getD (1 + a.length + j) false)).getD (1 + a.length + j) false = !v.getD (1 + a.length + j) false := by
    rw [List.getD_eq_getElem?_getD, List.getElem?_set_self (by omega)]
    rfl
  rw [e]
  simp only [beq_iff_eq] at hok
  rw [hok]
  cases val v (rd_T49 b j).f0 <;> cases val v (rd_T49 b j).f1 <;> rfl
theorem clauses_small (a : List S44) (b : List S49) (c : List Int) (o : Int) (h : chk a b c = 0) (hb : b.length ≤ 2000) (ho : 0 ≤ o ∧ o < c.length) :
    ([[-1]] ++ gates a.length b b.length 0 ++ [[lit (rd c o)]]).length ≤ 100000 ∧ ∀ l ∈ [[-1]] ++ gates a.length b b.length 0 ++ [[lit (rd c o)]], l.length ≤ 100 ∧ ∀ x ∈ l, -1000000 ≤ x ∧ x ≤ 1000000 := by
  obtain ⟨⟨la, lb, lc⟩, hin, hgate, hout⟩ := chk_zero h
  have h2 := hout o ho.1 ho.2
  unfold outOk at h2
  have hg : ∀ (d i : Nat), i + d = b.length → ∀ l ∈ gates a.length b d (i : Int), l.length ≤ 100 ∧ ∀ x ∈ l, -1000000 ≤ x ∧ x ≤ 1000000 := by
    intro d
    induction d with
    | zero => intro i _ l hl; simp [gates] at hl
    | succ d ih =>
      intro i hd l hl
      have hgi := hgate i (by omega) (by omega)
      unfold gateOk at hgi
      have p0 := lit_rng (l := (rd_T49 b i).f0) (by omega) (by omega)
      have p1 := lit_rng (l := (rd_T49 b i).f1) (by omega) (by omega)
      rw [gates, List.mem_append] at hl
      rcases hl with hl | hl
      · simp only [List.mem_cons, List.not_mem_nil, or_false] at hl
        rcases hl with rfl | rfl | rfl
        · refine ⟨by simp, fun x hx => ?_⟩
          simp only [List.mem_cons, List.not_mem_nil, or_false] at hx
          rcases hx with rfl | rfl <;> omega
        · refine ⟨by simp, fun x hx => ?_⟩
          simp only [List.mem_cons, List.not_mem_nil, or_false] at hx
          rcases hx with rfl | rfl <;> omega
        · refine ⟨by simp, fun x hx => ?_⟩
          simp only [List.mem_cons, List.not_mem_nil, or_false] at hx
          rcases hx with rfl | rfl | rfl <;> omega
      · rw [show (i : Int) + 1 = ((i + 1 : Nat) : Int) by omega] at hl
        exact ih (i + 1) (by omega) l hl
  refine ⟨?_, fun l hl => ?_⟩
  · simp only [List.length_append, gates_length, List.length_cons, List.length_nil]; omega
  · have p := lit_rng (l := rd c o) h2.1 (by omega)
    simp only [List.mem_append, List.mem_cons, List.not_mem_nil, or_false] at hl
    rcases hl with (rfl | hl) | rfl
    · exact ⟨by simp, fun x hx => by simp at hx; omega⟩
    · exact hg b.length 0 (by omega) l hl
    · exact ⟨by simp, fun x hx => by simp at hx; omega⟩
theorem map_rd (c : List Int) (v : List Bool) (o : Int) (ho : 0 ≤ o ∧ o < c.length) : rdOf false (c.map (val v)) o = val v (rd c o) := by
  have h : o.toNat < c.length := by omega
  simp [rdOf, rd, List.getD_eq_getElem?_getD, h]
theorem BlastSatisfied (a : List S44) (b : List S49) (c : List Int) (m : List Bool) (o node : Int)
    (hw : (a.length * 24 ≤ 140737488351232 ∧ ∀ x ∈ a, x.f0.size ≤ 140737488351232 ∧ (Lit.int .i64 x.f1).wf = true) ∧ (b.length * 16 ≤ 140737488351232 ∧ ∀ x ∈ b, (Lit.int .i64 x.f0).wf = true ∧ (Lit.int .i64 x.f1).wf = true) ∧ (c.length * 8 ≤ 140737488351232 ∧ ∀ x ∈ c, (Lit.int .i64 x).wf = true)) :
    ∃ k, retargetlaw04_BlastSatisfied.f k a b c m o node = some true := by
  obtain ⟨⟨hla, hsa⟩, ⟨hlb, hsb⟩, ⟨hlc, hsc⟩⟩ := hw
  refine Ev.rounds (g := fun k => retargetlaw04_BlastSatisfied.f k a b c m o node) ?_
  unfold retargetlaw04_BlastSatisfied.f
  obtain ⟨r, hr, hq⟩ := great a b c (by omega)
  have hs : ∀ x ∈ a, x.f0.size ≤ 140737488351232 := fun x hx => (hsa x hx).1
  have j0t : ∀ x, x = true → Ev (fun k => retargetlaw04_BlastSatisfied.j0 k m o node true x a b c) true := fun x hx => by
    subst hx
    refine Ev.step (fun k => by rw [retargetlaw04_BlastSatisfied.j0]) ?_
    exact ev_pos rfl (ev_now rfl)
  refine ev_bindc (show retargetlaw04_alive.f = some true from rfl) (Ev.bind hr (ev_if (fun _ => j0t _ rfl) (fun hf => ?_)))
  obtain ⟨h1, h2, h3⟩ := hq (by simpa using hf)
  refine ev_if (fun _ => j0t _ rfl) (fun hb => ev_if (fun _ => j0t _ rfl) (fun hm => ?_))
  refine Ev.step (fun k => by rw [retargetlaw04_BlastSatisfied.j0]) ?_
  refine ev_neg (by decide) ?_
  have j1t : ∀ cl x y, y = true → Ev (fun k => retargetlaw04_BlastSatisfied.j1 k m o node true cl x y a b c) true := fun cl x y hy => by
    subst hy
    refine Ev.step (fun k => by rw [retargetlaw04_BlastSatisfied.j1]) ?_
    exact ev_pos rfl (ev_now rfl)
  have hcl := blastClauses a b c o hs h1 h2
  refine Ev.bind hcl ?_
  rcases blastRun a b c m hs h3 (by omega) with ⟨hc0, hl, hrun⟩ | ⟨r2, hrun, hne⟩
  · refine Ev.bind hrun ?_
    obtain ⟨⟨la, lb, lc⟩, hin, hgate, hout⟩ := chk_zero hc0
    refine ev_if (fun hz => ?_) (fun _ => j1t _ _ _ rfl)
    have ho : 0 ≤ o ∧ o < c.length := by
      unfold spec at hz
      rw [if_pos hc0] at hz
      split at hz
      · exact absurd hz (by decide)
      · omega
    have hspec : (spec a b c o).2.1 = [[-1]] ++ gates a.length b b.length 0 ++ [[lit (rd c o)]] := by
      unfold spec
      rw [if_pos hc0, if_neg (by omega), if_neg (by omega)]
    rw [hspec]
    have hsm := clauses_small a b c o hc0 (by omega) ho
    obtain ⟨hlen, hv0, hok⟩ := nodes_ok a b c m hc0 hl
    obtain ⟨V, hV⟩ : ∃ V, V = run ([false] ++ m) b := ⟨_, rfl⟩
    have hn := nodes_eq a b c m hc0 hl
    rw [← hV] at hlen hv0 hok hn ⊢
    have hall : ((List.range b.length).all fun j => okG V a.length b j) = true := List.all_eq_true.2 fun j hj => hok j (List.mem_range.1 hj)
    have hsat := sat_ev _ V (by omega) hsm.1 hsm.2
    rw [clauses_sat a b c o hc0 (by omega) ho V hlen, hv0, hall] at hsat
    refine Ev.step (fun k => by rw [retargetlaw04_BlastSatisfied.j1]) ?_
    refine ev_neg (by simp) (Ev.bind hn (ev_neg (by simp; omega) (Ev.bind hsat (ev_pos ho.1 (ev_pos (by simp; omega) ?_)))))
    rw [map_rd c V o ho]
    refine Ev.step (fun k => by rw [retargetlaw04_BlastSatisfied.j2]) ?_
    refine ev_neg (by simp) ?_
    rw [wrap_id (n := 1 + (a.length : Int)) (by omega) (by omega)]
    refine ev_if (fun _ => ev_now rfl) (fun hn1 => ev_if (fun _ => ev_now rfl) (fun hn2 => ev_pos (by omega) (ev_pos (by omega) (ev_pos rfl ?_))))
    obtain ⟨j, hj⟩ : ∃ j : Nat, node = ((1 + a.length + j : Nat) : Int) := ⟨(node - 1 - a.length).toNat, by omega⟩
    subst hj
    have hjb : j < b.length := by omega
    have hbad := flip_bad a b c V hc0 hlen j hjb (hok j hjb)
    have e1 : ((1 + a.length + j : Nat) : Int).toNat = 1 + a.length + j := by omega
    have e2 : rdOf false V ((1 + a.length + j : Nat) : Int) = V.getD (1 + a.length + j) false := rfl
    rw [e1, e2]
    have hsat2 := sat_ev _ (V.set (1 + a.length + j) (!V.getD (1 + a.length + j) false)) (by rw [List.length_set]; omega) hsm.1 hsm.2
    rw [clauses_sat a b c o hc0 (by omega) ho _ (by rw [List.length_set]; exact hlen)] at hsat2
    have hnall : ((List.range b.length).all fun j' => okG (V.set (1 + a.length + j) (!V.getD (1 + a.length + j) false)) a.length b j') = false := by
      rw [Bool.eq_false_iff]
      intro h
      have := List.all_eq_true.1 h j (List.mem_range.2 hjb)
      rw [hbad] at this
      cases this
    rw [hnall] at hsat2
    exact Ev.bind hsat2 (ev_now (by simp))
  · refine Ev.bind hrun (ev_if (fun _ => j1t _ _ _ ?_) (fun _ => j1t _ _ _ rfl))
    simpa using hne
end Go.Proofs.YtjopdafckhkmmaaDoor.PureS
