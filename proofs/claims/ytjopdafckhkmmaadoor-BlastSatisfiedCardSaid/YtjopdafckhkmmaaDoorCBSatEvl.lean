/- How a printed function comes to its answer: small laws on 'from some number of rounds on' (Ev), one for each form of the printed text, and loops by an index. No condition. -/
import Derived.Test.YtjopdafckhkmmaaDoorCBSatV
set_option linter.unusedVariables false
namespace Go.Proofs.YtjopdafckhkmmaaDoor.Evl
open Go.RowKit Go.Proofs.YtjopdafckhkmmaaDoorW.PrintWords

theorem ev_pos {β : Type} {c : Prop} [Decidable c] {A B : Nat → Option β} {r : β} (h : c) (k : Ev A r) : Ev (fun n => if c then A n else B n) r := Ev.congr (fun n => if_pos h) k
theorem ev_neg {β : Type} {c : Prop} [Decidable c] {A B : Nat → Option β} {r : β} (h : ¬ c) (k : Ev B r) : Ev (fun n => if c then A n else B n) r := Ev.congr (fun n => if_neg h) k
theorem ev_if {β : Type} {c : Prop} [Decidable c] {A B : Nat → Option β} {r : β} (h : c → Ev A r) (k : ¬ c → Ev B r) : Ev (fun n => if c then A n else B n) r := by
  by_cases hc : c
  · exact ev_pos hc (h hc)
  · exact ev_neg hc (k hc)
theorem ev_bindc {α β : Type} {x : Option α} {a : α} {f : Nat → α → Option β} {r : β} (h : x = some a) (k : Ev (fun n => f n a) r) : Ev (fun n => x.bind (f n)) r :=
  Ev.congr (fun n => by rw [h]; rfl) k
theorem ev_some {α β : Type} {a : α} {f : Nat → α → Option β} {r : β} (k : Ev (fun n => f n a) r) : Ev (fun n => (some a).bind (f n)) r := k
theorem ev_eq {β : Type} {g : Nat → Option β} {r r' : β} (h : Ev g r) (e : r = r') : Ev g r' := e ▸ h
theorem ev_now {β : Type} {r r' : β} (e : r = r') : Ev (fun _ => some r) r' := e ▸ Ev.now r
theorem Ev.inj {β : Type} {g : Nat → Option β} {r r' : β} (h : Ev g r) (k : Ev g r') : r = r' := by
  obtain ⟨K, h⟩ := h
  obtain ⟨K', k⟩ := k
  exact Option.some.inj ((h (max K K') (Nat.le_max_left _ _)).symm.trans (k (max K K') (Nat.le_max_right _ _)))
/-- A loop by an index that goes up to n: its answer from each index on. -/
theorem ev_loop {β : Type} {g : Nat → Int → Option β} (n : Int) (R : Int → β) (step : ∀ i : Int, 0 ≤ i → i < n → Ev (fun k => g k (i + 1)) (R (i + 1)) → Ev (fun k => g k i) (R i)) (stop : Ev (fun k => g k n) (R n)) :
    ∀ i : Int, 0 ≤ i → i ≤ n → Ev (fun k => g k i) (R i) := by
  have key : ∀ (d : Nat) (i : Int), 0 ≤ i → n - i = d → Ev (fun k => g k i) (R i) := by
    intro d
    induction d with
    | zero =>
      intro i h0 hd
      obtain rfl : i = n := by omega
      exact stop
    | succ d ih => exact fun i h0 hd => step i h0 (by omega) (ih (i + 1) (by omega) (by omega))
  exact fun i h0 h1 => key (n - i).toNat i h0 (by omega)
/-- The same, of an answer of which something is known. -/
theorem ev_loop_ex {β : Type} {g : Nat → Int → Option β} (n : Int) (Q : β → Prop) (step : ∀ i : Int, 0 ≤ i → i < n → (∃ r, Ev (fun k => g k (i + 1)) r ∧ Q r) → ∃ r, Ev (fun k => g k i) r ∧ Q r) (stop : ∃ r, Ev (fun k => g k n) r ∧ Q r) :
    ∀ i : Int, 0 ≤ i → i ≤ n → ∃ r, Ev (fun k => g k i) r ∧ Q r := by
  have key : ∀ (d : Nat) (i : Int), 0 ≤ i → n - i = d → ∃ r, Ev (fun k => g k i) r ∧ Q r := by
    intro d
    induction d with
    | zero =>
      intro i h0 hd
      obtain rfl : i = n := by omega
      exact stop
    | succ d ih => exact fun i h0 hd => step i h0 (by omega) (ih (i + 1) (by omega) (by omega))
  exact fun i h0 h1 => key (n - i).toNat i h0 (by omega)
/-- A loop that asks something of each index: 'no' at the first that fails, else what stands behind it. -/
theorem ev_all {β : Type} {g : Nat → Int → Option β} (n : Int) (P : Int → Prop) [∀ i : Int, Decidable (∀ j, i ≤ j → j < n → P j)] {yes no : β} (hyes : ∀ i : Int, 0 ≤ i → i < n → P i → ∀ r, Ev (fun k => g k (i + 1)) r → Ev (fun k => g k i) r)
    (hno : ∀ i : Int, 0 ≤ i → i < n → ¬ P i → Ev (fun k => g k i) no) (stop : Ev (fun k => g k n) yes) : ∀ i : Int, 0 ≤ i → i ≤ n → Ev (fun k => g k i) (if ∀ j, i ≤ j → j < n → P j then yes else no) := by
  refine ev_loop (g := g) n (fun i => if ∀ j, i ≤ j → j < n → P j then yes else no) ?_ ?_
  · intro i h0 h1 ih
    by_cases hp : P i
    · have e : (∀ j, i ≤ j → j < n → P j) ↔ ∀ j, i + 1 ≤ j → j < n → P j := ⟨fun h j hj => h j (by omega), fun h j hj hn => by
        by_cases hji : j = i
        · exact hji ▸ hp
        · exact h j (by omega) hn⟩
      simp only [e]
      exact hyes i h0 h1 hp _ ih
    · rw [if_neg (fun h => hp (h i (Int.le_refl _) h1))]
      exact hno i h0 h1 hp
  · rw [if_pos (fun j hj hn => absurd hn (by omega))]
    exact stop

theorem wrap_id {n : Int} (h0 : -9223372036854775808 ≤ n) (h1 : n ≤ 9223372036854775807) : wrap64 n = n := by unfold wrap64; omega
end Go.Proofs.YtjopdafckhkmmaaDoor.Evl
