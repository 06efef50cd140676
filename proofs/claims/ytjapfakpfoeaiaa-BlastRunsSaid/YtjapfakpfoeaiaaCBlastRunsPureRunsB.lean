/- BlastRuns over lists and numbers, second part: both texts' Run come to the same list of Bools. No condition. -/
import Derived.Test.YtjapfakpfoeaiaaCBlastRunsPureRunsA
set_option linter.unusedVariables false
namespace Go.Proofs.Ytjapfakpfoeaiaa.PureA
open Go.RowKit Go.Proofs.Ytjapfakpfoeaiaa.MBlastRuns Go.Proofs.YtjapfakpfoeaiaaW.PrintWords Go.Proofs.YtjapfakpfoeaiaaW.PrintLast Go.Proofs.YtjapfakpfoeaiaaW.PrintMore Go.Proofs.Ytjapfakpfoeaiaa.Evl Go.Proofs.Ytjapfakpfoeaiaa.PureB
open Classical

theorem chk_zero {a : List S52} {b : List S54} {c : List Int} (h : chk a b c = 0) : (a.length ≤ 512 ∧ b.length ≤ 100000 ∧ c.length ≤ 64) ∧ (∀ j : Int, 0 ≤ j → j < a.length → inOk a j) ∧
    (∀ j : Int, 0 ≤ j → j < b.length → gateOk a.length b j) ∧ (∀ j : Int, 0 ≤ j → j < c.length → outOk (1 + a.length + b.length) c j) := by
  unfold chk at h
  split at h
  · cases h
  · split at h
    · split at h
      · split at h
        · rename_i h1 h2 h3 h4
          exact ⟨by omega, h2, h3, h4⟩
        · cases h
      · cases h
    · cases h

/-- The value of a literal. -/
def val (v : List Bool) (l : Int) : Bool := rdOf false v (l / 2) != (Int.tmod l 2 == 1)
theorem at_eq (v : List Bool) (l : Int) (hv : v.length ≤ 200000) (h0 : 0 ≤ l) (h1 : l < 2 * v.length) : at_ v l = some (val v l) := by
  unfold at_ val
  rw [Int.tdiv_eq_ediv_of_nonneg h0, wrap_id (n := l / 2) (by omega) (by omega), if_pos (by omega), if_pos (by omega)]
theorem lit_eq (v : List Bool) (l : Int) (hv : v.length ≤ 200000) (h0 : 0 ≤ l) (h1 : l < 2 * v.length) : retargetref04_Lit.f v l = some (val v l) := by
  unfold retargetref04_Lit.f val
  rw [Int.tdiv_eq_ediv_of_nonneg h0, wrap_id (n := l / 2) (by omega) (by omega)]
  by_cases h : Int.tmod l 2 = 1
  · rw [if_pos h, if_pos (by omega), if_pos (by omega), h]
    simp
  · rw [if_neg h, if_pos (by omega), if_pos (by omega)]
    have : (Int.tmod l 2 == 1) = false := by simpa using h
    rw [this]
    simp

/-- The values of all nodes. -/
def run (v : List Bool) : List S54 → List Bool
  | [] => v
  | g :: gs => run (v ++ [if val v g.f0 = true then val v g.f1 else false]) gs
theorem run_length : ∀ (gs : List S54) (v : List Bool), (run v gs).length = v.length + gs.length
  | [], v => by simp [run]
  | g :: gs, v => by rw [run, run_length gs]; simp; omega
/-- The gates' literals stay below what stands. -/
def fine : Nat → List S54 → Prop
  | _, [] => True
  | m, g :: gs => (0 ≤ g.f0 ∧ g.f0 < 2 * m ∧ 0 ≤ g.f1 ∧ g.f1 < 2 * m) ∧ fine (m + 1) gs
theorem rd54_succ (g : S54) (gs : List S54) (j : Int) (h : 0 ≤ j) : rd_T54 (g :: gs) (j + 1) = rd_T54 gs j := by
  unfold rd_T54
  rw [show (j + 1).toNat = j.toNat + 1 by omega]
  rfl
theorem fine_of : ∀ (b : List S54) (n : Nat), (∀ j : Int, 0 ≤ j → j < b.length → gateOk n b j) → fine (1 + n) b
  | [], _, _ => trivial
  | g :: gs, n, h => by
    refine ⟨?_, ?_⟩
    · have := h 0 (by omega) (by simp <;> omega)
      unfold gateOk at this
      have e : rd_T54 (g :: gs) 0 = g := rfl
      rw [e] at this
      omega
    · have := fine_of gs (n + 1) (fun j h0 h1 => by
        have := h (j + 1) (by omega) (by simp; omega)
        unfold gateOk at this ⊢
        rw [rd54_succ _ _ _ h0] at this
        omega)
      rw [show 1 + n + 1 = 1 + (n + 1) by omega]
      exact this
theorem gates_eq : ∀ (gs : List S54) (v : List Bool), v.length + gs.length ≤ 200000 → fine v.length gs → gates_ v gs = some (run v gs)
  | [], v, _, _ => rfl
  | g :: gs, v, hl, hf => by
    obtain ⟨⟨h0, h1, h2, h3⟩, hf⟩ := hf
    simp only [List.length_cons] at hl
    rw [gates_, at_eq v g.f0 (by omega) h0 h1, Option.bind_some, run]
    have e : (if val v g.f0 = true then at_ v g.f1 else some false) = some (if val v g.f0 = true then val v g.f1 else false) := by
      split
      · exact at_eq v g.f1 (by omega) h2 h3
      · rfl
    rw [e, Option.bind_some, if_pos (by omega)]
    exact gates_eq gs _ (by simp; omega) (by simpa using hf)
theorem drop54 (b : List S54) (i : Nat) (h : i < b.length) : b.drop i = rd_T54 b i :: b.drop (i + 1) := by
  rw [List.drop_eq_getElem_cons h]
  simp [rd_T54, List.getD_eq_getElem?_getD, h]
theorem ev_nodes (a : List S52) (b : List S54) (c : List Int) : ∀ (d : Nat) (i : Nat) (v : List Bool), b.length - i = d → i ≤ b.length → v.length + d ≤ 200000 → b.length ≤ 200000 → fine v.length (b.drop i) →
    Ev (fun k => retargetref04_Nodes.l0 k v (i : Int) a b c) (run v (b.drop i)) := by
  intro d
  induction d with
  | zero =>
    intro i v hd hi hl hb hf
    rw [List.drop_eq_nil_of_le (by omega)]
    refine Ev.step (fun k => by rw [retargetref04_Nodes.l0]) ?_
    exact ev_neg (by omega) (ev_now rfl)
  | succ d ih =>
    intro i v hd hi hl hb hf
    rw [drop54 b i (by omega)] at hf ⊢
    obtain ⟨⟨h0, h1, h2, h3⟩, hf⟩ := hf
    refine Ev.step (fun k => by rw [retargetref04_Nodes.l0]) (ev_pos (by omega) (ev_pos (by omega) (ev_bindc (lit_eq v _ (by omega) h0 h1) ?_)))
    rw [run, wrap_id (n := (i : Int) + 1) (by omega) (by omega)]
    refine ev_if (fun h => ev_bindc (lit_eq v _ (by omega) h2 h3) (ev_pos (by omega) ?_)) (fun h => ev_pos (by omega) ?_)
    · rw [if_pos h]
      exact ih (i + 1) _ (by omega) (by omega) (by simp; omega) hb (by simpa using hf)
    · rw [if_neg h]
      exact ih (i + 1) _ (by omega) (by omega) (by simp; omega) hb (by simpa using hf)
theorem outs_eq (v : List Bool) (hv : v.length ≤ 200000) : ∀ (os : List Int) (acc : List Bool), acc.length + os.length ≤ 200000 → (∀ o ∈ os, 0 ≤ o ∧ o < 2 * v.length) → outs_ v acc os = some (acc ++ os.map (val v))
  | [], acc, _, _ => by simp [outs_]
  | o :: os, acc, hl, hf => by
    simp only [List.length_cons] at hl
    have ho := hf o (by simp)
    rw [outs_, at_eq v o hv ho.1 ho.2, Option.bind_some, if_pos (by omega), outs_eq v hv os _ (by simp; omega) (fun x hx => hf x (by simp [hx]))]
    simp
theorem dropI (c : List Int) (i : Nat) (h : i < c.length) : c.drop i = rd c i :: c.drop (i + 1) := by
  rw [List.drop_eq_getElem_cons h]
  simp [rd, List.getD_eq_getElem?_getD, h]
theorem ev_refOuts (a : List S52) (b : List S54) (c : List Int) (v : List Bool) (hv : v.length ≤ 200000) (hc : c.length ≤ 200000) (hf : ∀ j : Int, 0 ≤ j → j < c.length → outOk v.length c j) : ∀ (d : Nat) (i : Nat) (acc : List Bool), c.length - i = d → i ≤ c.length → acc.length + d ≤ 200000 →
    Ev (fun k => retargetref04_Run.l0 k v acc (i : Int) a b c) (acc ++ (c.drop i).map (val v), (0 : Int)) := by
  intro d
  induction d with
  | zero =>
    intro i acc hd hi hl
    rw [List.drop_eq_nil_of_le (by omega)]
    refine Ev.step (fun k => by rw [retargetref04_Run.l0]) ?_
    exact ev_neg (by omega) (ev_now (by simp))
  | succ d ih =>
    intro i acc hd hi hl
    rw [dropI c i (by omega)]
    have ho := hf i (by omega) (by omega)
    unfold outOk at ho
    refine Ev.step (fun k => by rw [retargetref04_Run.l0]) ?_
    refine ev_pos (by omega) (ev_pos (by omega) (ev_bindc (lit_eq v _ hv ho.1 ho.2) ?_))
    refine ev_pos (by omega) ?_
    rw [wrap_id (n := (i : Int) + 1) (by omega) (by omega)]
    exact ev_eq (ih (i + 1) _ (by omega) (by omega) (by simp; omega)) (by simp)

theorem runs (a : List S52) (b : List S54) (c : List Int) (m : List Bool) (ha : ∀ x ∈ a, x.f0.size ≤ 140737488351232) (hc : c.length ≤ 100) (hm : m.length ≤ 700) :
    ∃ r : List Bool × Int, Ev (fun k => blast_Run.f k a b c m) r ∧ Ev (fun k => retargetref04_Run.f k a b c m) r ∧ r.1.length ≤ 100 := by
  by_cases h : chk a b c = 0
  · obtain ⟨⟨la, lb, lc⟩, hin, hgate, hout⟩ := chk_zero h
    by_cases hl : m.length = a.length
    · have hf : fine ([false] ++ m).length b := by
        have := fine_of b a.length hgate
        rw [← hl] at this
        simpa [Nat.add_comm] using this
      have hlen : (run ([false] ++ m) b).length = 1 + a.length + b.length := by rw [run_length]; simp; omega
      refine ⟨(c.map (val (run ([false] ++ m) b)), 0), ?_, ?_, ?_⟩
      · unfold blast_Run.f
        refine Ev.bind (ev_check a b c ha) (ev_pos h (ev_pos hl (ev_pos (by omega) (ev_bindc (gates_eq b _ (by simp; omega) hf) (ev_bindc (outs_eq _ (by omega) c [] (by simp; omega) (fun o ho => ?_)) (ev_now ?_))))))
        · obtain ⟨i, hi, rfl⟩ := List.mem_iff_getElem.mp ho
          have := hout i (by omega) (by omega)
          unfold outOk at this
          have e : rd c (i : Int) = c[i] := by simp [rd, List.getD_eq_getElem?_getD, hi]
          rw [e] at this
          rw [hlen]
          omega
        · simp
      · unfold retargetref04_Run.f
        refine Ev.bind (ev_refCheck a b c ha) (ev_pos h (ev_pos (by omega) (Ev.bind (a := run ([false] ++ m) b) ?_ ?_)))
        · unfold retargetref04_Nodes.f
          refine ev_some (ev_pos (by simp <;> omega) ?_)
          exact ev_nodes a b c b.length 0 _ (by omega) (by omega) (by simp; omega) (by omega) (by simpa using hf)
        · have := ev_refOuts a b c (run ([false] ++ m) b) (by omega) (by omega) (fun j h0 h1 => by
            have := hout j h0 h1
            unfold outOk at this ⊢
            rw [hlen]
            omega) c.length 0 [] (by omega) (by omega) (by simp; omega)
          exact ev_eq this (by simp)
      · simp; omega
    · refine ⟨([], 2), ?_, ?_, by simp⟩
      · unfold blast_Run.f
        exact Ev.bind (ev_check a b c ha) (ev_pos h (ev_neg hl (ev_now rfl)))
      · unfold retargetref04_Run.f
        exact Ev.bind (ev_refCheck a b c ha) (ev_pos h (ev_neg (by omega) (ev_now rfl)))
  · refine ⟨([], chk a b c), ?_, ?_, by simp⟩
    · unfold blast_Run.f
      exact Ev.bind (ev_check a b c ha) (ev_neg h (ev_now rfl))
    · unfold retargetref04_Run.f
      exact Ev.bind (ev_refCheck a b c ha) (ev_neg h (Ev.bind (ev_refCheck a b c ha) (ev_now rfl)))
end Go.Proofs.Ytjapfakpfoeaiaa.PureA
