/- term.shaped, term.widths and what it calls, by hand. Condition of these lemmas: the table term.shapes lies in its variable as the program lays it (Tab). -/
import Derived.Test.YtjopdafckhkmmaaDoorCBSatHBSTermSize
import Derived.BigRegion
set_option linter.unusedVariables false
set_option linter.unusedSimpArgs false
namespace Go.Proofs.YtjopdafckhkmmaaDoor.MBS
open Go.Proofs.YtjopdafckhkmmaaDoor.Zed Go.RowKit Go.Proofs.YtjopdafckhkmmaaDoorW.PrintWords Go.Proofs.YtjopdafckhkmmaaDoorW.PrintLast Go.Proofs.YtjopdafckhkmmaaDoorW.PrintMore
attribute [local go_sem] Oper.semAt_some

theorem ret_int {k : IntKind} {a b : Int} (h : a = b) : Ending.returned (.int k a) = .returned (.int k b) := by rw [h]
theorem ret_bool {a b : Bool} (h : a = b) : Ending.returned (.bool a) = .returned (.bool b) := by rw [h]
/-! ### The closure of widths, IndexFunc and ContainsFunc -/
theorem width1_calls (y : Tm) (cs : List Value) (w : World) (B : Nat) (v : Int) (hK : kT.K w y cs) (hb : w.heap[B]? = some (.cells #[.int .i64 v] 3 (0, 0))) :
    Calls Tryd.prog 96 #[.agg cs.toArray, .pointer (some ⟨B, 0, none⟩)] w fun e w' => e = .returned (.bool (y.f1 != v)) ∧ w' = w.alloc (.cells cs.toArray 25) := by
  obtain ⟨A5, c5, rfl, l5, g5⟩ := k25_open hK
  have hu25 := Tryd.underlying25
  have q0 : (w.alloc (.cells #[.int .u8 y.f0, .int .i64 y.f1, .int .u64 y.f2, .string y.f3, .int .i64 y.f4, .slice A5 y.f5.length c5] 25)).cell? ⟨B, 0, none⟩ = some (.int .i64 v) := (blk_cell (blk_alloc hb _) 0).trans rfl
  clear g5 hK hb l5
  go_enter Tryd.func96, Tryd.ntmps96
  go_wp2
  go_ret
  exact ⟨rfl, rfl⟩
/-- The place of the first part of another width. -/
def idxW (l : List Tm) (v : Int) (i : Nat) : Int := if h : i < l.length then (if l[i].f1 ≠ v then (i : Int) else idxW l v (i + 1)) else -1
  termination_by l.length - i
set_option maxHeartbeats 1000000 in
theorem IndexFunc_calls (A : Option Addr) (c : Nat) (l : List Tm) (w : World) (B : Nat) (v : Int) (hC : kT.C w A l.length l) (hl : l.length ≤ c) (hb : w.heap[B]? = some (.cells #[.int .i64 v] 3 (0, 0))) :
    Calls Tryd.prog 105 #[.slice A l.length c, .func (.func 96) #[] #[.pointer (some ⟨B, 0, none⟩)]] w fun e w' => e = .returned (.int .i64 (idxW l v 0)) ∧ Below w.heap.size w w' := by
  have hm := hC.2.1
  have HC := Aside0.mk hC
  have HBX := Aside0.mk hb
  have hu25 := Tryd.underlying25
  clear hC hb
  go_enter Tryd.func105, Tryd.ntmps105
  go_wp2
  go_loopw [8] (fun v8 wr => ∃ i : Nat, v8 = .int .i64 i ∧ i ≤ l.length ∧ Aside0 (idxW l v i = idxW l v 0) ∧ Aside0 (Below w.heap.size w wr)) (fun v8 _ => l.length - (intOf v8).toNat)
  case atStart => exact ⟨0, rfl, Nat.zero_le _, ⟨rfl⟩, ⟨Below.refl _ _⟩⟩
  case round =>
    obtain ⟨i, rfl, hi, HI, HB⟩ := hrel
    by_cases hlt : i < l.length
    · have hCr := Kd.C_below HC.out HB.out
      obtain ⟨ad, A', c', rfl, q0, q1, q2, q3, q4, q5, l', g'⟩ := at_T25 hCr (i : Int) q29_ q29_
      have hrd : rd_T25 l (i : Int) = l[i] := by simp [rd_T25, List.getD_eq_getElem?_getD, hlt]
      rw [hrd] at q0 q1 q2 q3 q4 q5 l' g'
      have hKi := k25_mk wr l[i] l' g'
      simp only [Int.toNat_natCast] at q0 q1 q2 q3 q4 q5
      have hI := HI.out
      rw [idxW, dif_pos hlt] at hI
      have HIE := Aside0.mk hI
      obtain ⟨y, hy⟩ : ∃ y, y = l[i] := ⟨_, rfl⟩
      rw [← hy] at q0 q1 q2 q3 q4 q5 l' hKi
      have HYE := Aside0.mk hy
      have HKI := Aside0.mk hKi
      have HBR := Aside0.mk ((HB.out.block _ (blk_lt HBX.out)).trans HBX.out)
      clear hy g' hrd hKi l' hI hCr HI
      by_cases hne : y.f1 = v
      · have hb1 : (y.f1 != v) = false := by simp [hne]
        have HN := Aside0.mk hne
        clear hne
        go_wp2_with (go_at_call 96; refine (width1_calls y _ wr B v HKI.out HBR.out).mono ?_; rintro e w' ⟨rfl, rfl⟩; rw [hb1])
        go_roundw
        case measure => simp [intOf]; omega
        case rel => exact ⟨i + 1, by go_num, hlt, ⟨by have h := HIE.out; rw [← HYE.out, if_neg (by simpa using HN.out)] at h; exact h⟩, ⟨below_alloc HB.out _⟩⟩
      · have hb1 : (y.f1 != v) = true := by simp [hne]
        have HN := Aside0.mk hne
        clear hne
        go_wp2_with (go_at_call 96; refine (width1_calls y _ wr B v HKI.out HBR.out).mono ?_; rintro e w' ⟨rfl, rfl⟩; rw [hb1])
        go_ret
        exact ⟨ret_int (by have h := HIE.out; rw [← HYE.out, if_pos HN.out] at h; exact h), below_alloc HB.out _⟩
    · have hI := HI.out
      rw [idxW, dif_neg hlt] at hI
      have HIE := Aside0.mk hI
      clear hI HI
      go_wp2
      go_ret
      exact ⟨ret_int HIE.out, HB.out⟩
theorem idxW_any (l : List Tm) (v : Int) : ∀ (d i : Nat), l.length - i = d → (0 ≤ idxW l v i ↔ ∃ j, i ≤ j ∧ ∃ h : j < l.length, l[j].f1 ≠ v) := by
  intro d
  induction d with
  | zero =>
    intro i hd
    rw [idxW, dif_neg q29_]
    constructor
    · intro h; omega
    · rintro ⟨j, h1, h2, _⟩; omega
  | succ d ih =>
    intro i hd
    rw [idxW, dif_pos q29_]
    split
    · rename_i h
      exact ⟨fun _ => ⟨i, Nat.le_refl _, by omega, h⟩, fun _ => by omega⟩
    · rename_i h
      rw [ih (i + 1) q29_]
      constructor
      · rintro ⟨j, h1, h2, h3⟩
        exact ⟨j, by omega, h2, h3⟩
      · rintro ⟨j, h1, h2, h3⟩
        refine ⟨j, ?_, h2, h3⟩
        rcases Nat.lt_or_ge i j with h4 | h4
        · exact h4
        · obtain rfl : i = j := by omega
          exact absurd h3 h
theorem ContainsFunc_calls (A : Option Addr) (c : Nat) (l : List Tm) (w : World) (B : Nat) (v : Int) (hC : kT.C w A l.length l) (hl : l.length ≤ c) (hb : w.heap[B]? = some (.cells #[.int .i64 v] 3 (0, 0))) :
    Calls Tryd.prog 95 #[.slice A l.length c, .func (.func 96) #[] #[.pointer (some ⟨B, 0, none⟩)]] w fun e w' => e = .returned (.bool (decide (0 ≤ idxW l v 0))) ∧ Below w.heap.size w w' := by
  have HC := Aside0.mk hC
  have HBX := Aside0.mk hb
  have HL := Aside0.mk hl
  clear hC hb hl
  go_enter Tryd.func95, Tryd.ntmps95
  go_wp2_with (go_at_call 105; refine (IndexFunc_calls A c l w B v HC.out HL.out HBX.out).mono ?_; rintro e w' ⟨rfl, hb⟩; have HB := Aside0.mk hb; clear hb)
  go_ret
  exact ⟨rfl, HB.out⟩
end Go.Proofs.YtjopdafckhkmmaaDoor.MBS
