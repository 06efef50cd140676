/- InterpretStores over lists and numbers, second part: what is a memory, what fits, and the two loops of Store. No condition. -/
import Derived.Test.YtpogkinegkfokaaCISPureStoresA
set_option linter.unusedVariables false
namespace Go.Proofs.Ytpogkinegkfokaa.PureB
open Go.RowKit Go.Proofs.Ytpogkinegkfokaa.MInterpretStores Go.Proofs.YtpogkinegkfokaaW.PrintWords Go.Proofs.YtpogkinegkfokaaW.PrintLast Go.Proofs.YtpogkinegkfokaaW.PrintMore Go.Proofs.Ytpogkinegkfokaa.Evl Go.Proofs.Ytpogkinegkfokaa.PureA
open Classical

def cellOk (l : List S36) (i : Int) : Prop := (rd_T36 l i).f1 ≠ 0 ∧ (0 < i → (rd_T36 l (i - 1)).f0 < (rd_T36 l i).f0)
noncomputable def ccN (l : List S36) : Int := if l.length > 4096 then 8 else if ∀ j : Int, 0 ≤ j → j < l.length → cellOk l j then 0 else 8
theorem ev_termCheckCells (l : List S36) : Ev (fun k => term_CheckCells.f k l) (ccN l) := by
  unfold term_CheckCells.f ccN
  refine ev_if (fun h => ev_now (by rw [if_pos (by omega)])) (fun h => ?_)
  rw [if_neg (by omega)]
  refine ev_all (g := fun k i => term_CheckCells.l0 k l l (l.length : Int) i) (l.length : Int) (cellOk l) ?_ ?_ ?_ 0 (by omega) (by omega)
  · intro i h0 h1 hp r hr
    refine Ev.step (fun k => by rw [term_CheckCells.l0]) (ev_pos h1 (ev_pos h0 (ev_pos h1 (ev_neg hp.1 ?_))))
    rw [wrap_id (n := i + 1) (by omega) (by omega), wrap_id (n := i - 1) (by omega) (by omega)]
    refine ev_if (fun h => ev_pos (by omega) (ev_pos (by omega) (ev_neg ?_ hr))) (fun _ => hr)
    have := hp.2 h
    omega
  · intro i h0 h1 hp
    refine Ev.step (fun k => by rw [term_CheckCells.l0]) (ev_pos h1 (ev_pos h0 (ev_pos h1 (ev_if (fun _ => ev_now rfl) (fun hz => ?_)))))
    have h2 : 0 < i ∧ ¬ (rd_T36 l (i - 1)).f0 < (rd_T36 l i).f0 := by
      unfold cellOk at hp
      refine Classical.byContradiction fun hh => hp ⟨hz, fun h3 => Classical.byContradiction fun h4 => hh ⟨h3, h4⟩⟩
    rw [wrap_id (n := i - 1) (by omega) (by omega)]
    exact ev_pos h2.1 (ev_pos (by omega) (ev_pos (by omega) (ev_pos (by omega) (ev_now rfl))))
  · exact Ev.step (fun k => by rw [term_CheckCells.l0]) (ev_neg (by omega) (ev_now rfl))
theorem ev_refCheckCells (l : List S36) : Ev (fun k => retargetref02_CheckCells.f k l) (ccN l) := by
  unfold retargetref02_CheckCells.f ccN
  refine ev_if (fun h => ev_now (by rw [if_pos (by omega)])) (fun h => ?_)
  rw [if_neg (by omega)]
  refine ev_all (g := fun k i => retargetref02_CheckCells.l0 k l i) (l.length : Int) (cellOk l) ?_ ?_ ?_ 0 (by omega) (by omega)
  · intro i h0 h1 hp r hr
    refine Ev.step (fun k => by rw [retargetref02_CheckCells.l0]) (ev_pos h1 (ev_pos h0 (ev_neg hp.1 ?_)))
    rw [wrap_id (n := i + 1) (by omega) (by omega), wrap_id (n := i - 1) (by omega) (by omega)]
    refine ev_if (fun h => ev_pos (by omega) (ev_pos (by omega) (ev_neg ?_ hr))) (fun _ => hr)
    have := hp.2 h
    omega
  · intro i h0 h1 hp
    refine Ev.step (fun k => by rw [retargetref02_CheckCells.l0]) (ev_pos h1 (ev_pos h0 (ev_if (fun _ => ev_now rfl) (fun hz => ?_))))
    have h2 : 0 < i ∧ ¬ (rd_T36 l (i - 1)).f0 < (rd_T36 l i).f0 := by
      unfold cellOk at hp
      refine Classical.byContradiction fun hh => hp ⟨hz, fun h3 => Classical.byContradiction fun h4 => hh ⟨h3, h4⟩⟩
    rw [wrap_id (n := i - 1) (by omega) (by omega)]
    exact ev_pos h2.1 (ev_pos (by omega) (ev_pos (by omega) (ev_pos (by omega) (ev_now rfl))))
  · exact Ev.step (fun k => by rw [retargetref02_CheckCells.l0]) (ev_neg (by omega) (ev_now rfl))
theorem srt_of {l : List S36} (h : ∀ j : Int, 0 ≤ j → j < l.length → cellOk l j) : Srt l := by
  unfold Srt
  rw [List.pairwise_iff_getElem]
  have key : ∀ (d i : Nat) (h1 : i + d + 1 < l.length), (l[i]).f0 < (l[i + d + 1]).f0 := by
    intro d
    induction d with
    | zero =>
      intro i h1
      have h2 := (h ((i : Int) + 1) (by omega) (by omega)).2 (by omega)
      rw [rd_at _ _ (by omega), rd_at _ _ (by omega)] at h2
      simpa [show ((i : Int) + 1 - 1).toNat = i by omega, show ((i : Int) + 1).toNat = i + 1 by omega] using h2
    | succ d ih =>
      intro i h1
      have h3 := ih i (by omega)
      have h2 := (h (((i + d + 1 : Nat) : Int) + 1) (by omega) (by omega)).2 (by omega)
      rw [rd_at _ _ (by omega), rd_at _ _ (by omega)] at h2
      simp only [show (((i + d + 1 : Nat) : Int) + 1 - 1).toNat = i + d + 1 by omega, show (((i + d + 1 : Nat) : Int) + 1).toNat = i + (d + 1) + 1 by omega] at h2
      omega
  intro i j h1 h2 h3
  have := key (j - i - 1) i (by omega)
  simpa [show i + (j - i - 1) + 1 = j by omega] using this
noncomputable def memB (l : List S36) : Bool := if l.length ≤ 4096 then (if ccN l = 0 then (if l.length = 0 then true else decide ((rd_T36 l ((l.length : Int) - 1)).f0 ≤ 4294967295)) else false) else false
theorem memB_srt {l : List S36} (h : memB l = true) : Srt l ∧ l.length ≤ 4096 := by
  unfold memB at h
  split at h
  · rename_i h1
    split at h
    · rename_i h2
      unfold ccN at h2
      rw [if_neg (by omega)] at h2
      split at h2
      · exact ⟨srt_of (by assumption), h1⟩
      · cases h2
    · cases h
  · cases h
theorem ev_memory (l : List S36) (hw : ∀ x ∈ l, 0 ≤ x.f0) : Ev (fun k => interpret_memory.f k l) (memB l) := by
  unfold interpret_memory.f memB
  refine ev_if (fun h => ?_) (fun h => ev_now (by rw [if_neg (by omega)]))
  rw [if_pos (show l.length ≤ 4096 by omega)]
  refine Ev.bind (ev_termCheckCells l) (ev_if (fun h1 => ?_) (fun h1 => ev_now (by rw [if_neg h1])))
  rw [if_pos h1]
  refine ev_if (fun h2 => ev_now (by rw [if_pos (by omega)])) (fun h2 => ?_)
  rw [if_neg (show ¬ l.length = 0 by omega), wrap_id (n := (l.length : Int) - 1) (by omega) (by omega)]
  refine ev_pos (by omega) (ev_pos (by omega) (ev_now ?_))
  have h0 : 0 ≤ (rd_T36 l ((l.length : Int) - 1)).f0 := by
    rw [rd_at _ _ (by omega)]
    exact hw _ (List.getElem_mem _)
  rw [Bool.eq_iff_iff]
  simp
  omega
theorem ev_refMemory (l : List S36) : Ev (fun k => retargetref19_Memory.f k l) (memB l) := by
  unfold retargetref19_Memory.f memB
  refine ev_if (fun h => ?_) (fun h => ev_now (by rw [if_neg (by omega)]))
  rw [if_pos (show l.length ≤ 4096 by omega)]
  refine Ev.bind (ev_refCheckCells l) (ev_if (fun h1 => ?_) (fun h1 => ev_now (by rw [if_neg h1])))
  rw [if_pos h1]
  refine ev_if (fun h2 => ev_now (by rw [if_pos (by omega)])) (fun h2 => ?_)
  rw [if_neg (show ¬ l.length = 0 by omega), wrap_id (n := (l.length : Int) - 1) (by omega) (by omega)]
  exact ev_pos (by omega) (ev_pos (by omega) (ev_now rfl))

/-! ### What fits -/
theorem below_eq (x : Int) (w : Nat) (hx : 0 ≤ x) (h1 : 1 ≤ w) (h2 : w ≤ 64) : interpret_below.f x w = some (decide (x < 2 ^ w)) := by
  unfold interpret_below.f
  rw [wrap_id (n := (w : Int) - 1) (by omega) (by omega), if_pos (by omega)]
  congr 1
  unfold shr
  have e : min ((w : Int) - 1).toNat IntKind.u64.bits = w - 1 := by
    have : IntKind.u64.bits = 64 := rfl
    rw [this, Nat.min_eq_left (by omega)]
    omega
  rw [e]
  have h3 : (2 : Int) ^ w = 2 * 2 ^ (w - 1) := by
    obtain ⟨v, rfl⟩ : ∃ v, w = v + 1 := ⟨w - 1, by omega⟩
    rw [Int.pow_succ, Nat.add_sub_cancel, Int.mul_comm]
  have h4 : (0 : Int) < 2 ^ (w - 1) := Int.pow_pos (by omega)
  have h5 : x / 2 / 2 ^ (w - 1) = x / (2 * 2 ^ (w - 1)) := Int.ediv_ediv_of_nonneg (by omega)
  rw [h5, h3, Bool.eq_iff_iff]
  simp only [beq_iff_eq, decide_eq_true_eq]
  constructor
  · intro h
    have := (Int.ediv_eq_iff_of_pos (k := 2 * 2 ^ (w - 1)) (by omega)).1 h
    omega
  · intro h
    exact Int.ediv_eq_zero_of_lt hx h
theorem ev_power (w : Int) (h0 : 0 ≤ w) (h1 : w ≤ 63) : Ev (fun k => retargetref01_Power.f k w) (2 ^ w.toNat) := by
  unfold retargetref01_Power.f
  have key : ∀ (d : Nat) (i : Int), 0 ≤ i → w - i = d → Ev (fun k => retargetref01_Power.l0 k w (2 ^ i.toNat) i) (2 ^ w.toNat) := by
    intro d
    induction d with
    | zero =>
      intro i hi hd
      obtain rfl : i = w := by omega
      exact Ev.step (fun k => by rw [retargetref01_Power.l0]) (ev_neg (by omega) (ev_now rfl))
    | succ d ih =>
      intro i hi hd
      refine Ev.step (fun k => by rw [retargetref01_Power.l0]) (ev_pos (by omega) ?_)
      have hp : ∀ n : Nat, n < 63 → IntKind.u64.wrap ((2 : Int) ^ n + 2 ^ n) = 2 ^ (n + 1) := by decide +kernel
      have e := hp i.toNat (by omega)
      rw [e, wrap_id (n := i + 1) (by omega) (by omega), show i.toNat + 1 = (i + 1).toNat by omega]
      exact ih (i + 1) (by omega) (by omega)
  exact key w.toNat 0 (by omega) (by omega)
theorem ev_refOk (w : Nat) (v : Int) (hw : 1 ≤ w) (hw2 : w ≤ 64) (hv : v < 18446744073709551616) : Ev (fun k => retargetref01_Ok.f k w v) (decide (v < 2 ^ w)) := by
  have hwide : retargetref01_Wide.f w = some true := by
    unfold retargetref01_Wide.f
    rw [if_pos (by omega), decide_eq_true (by omega)]
  unfold retargetref01_Ok.f
  refine ev_bindc hwide (ev_pos rfl (ev_if (fun h => ev_now ?_) (fun h => Ev.bind (ev_power w (by omega) (by omega)) (ev_now (by rw [Int.toNat_natCast])))))
  obtain rfl : w = 64 := by omega
  rw [decide_eq_true]
  exact hv
theorem ev_contains (x : Int) : Ev (fun k => slices_Contains_int_int.f k ([8, 16, 32, 64] : List Int) x) (decide (x = 8 ∨ x = 16 ∨ x = 32 ∨ x = 64)) := by
  unfold slices_Contains_int_int.f slices_Index_int_int.f
  have r0 : rd ([8, 16, 32, 64] : List Int) 0 = 8 := rfl
  have r1 : rd ([8, 16, 32, 64] : List Int) 1 = 16 := rfl
  have r2 : rd ([8, 16, 32, 64] : List Int) 2 = 32 := rfl
  have r3 : rd ([8, 16, 32, 64] : List Int) 3 = 64 := rfl
  have w1 : wrap64 (0 + 1) = 1 := by decide +kernel
  have w2 : wrap64 (1 + 1) = 2 := by decide +kernel
  have w3 : wrap64 (2 + 1) = 3 := by decide +kernel
  have w4 : wrap64 (3 + 1) = 4 := by decide +kernel
  have hidx : Ev (fun k => slices_Index_int_int.l0 k ([8, 16, 32, 64] : List Int) x ((([8, 16, 32, 64] : List Int).length : Nat) : Int) 0) (if x = 8 then 0 else if x = 16 then 1 else if x = 32 then 2 else if x = 64 then 3 else -1) := by
    refine Ev.step (fun k => by rw [slices_Index_int_int.l0]) (ev_pos (by decide) (ev_pos (by decide) (ev_pos (by decide) ?_)))
    rw [r0, w1]
    refine ev_if (fun h => ev_now (by rw [if_pos h])) (fun h => ?_)
    rw [if_neg h]
    refine Ev.step (fun k => by rw [slices_Index_int_int.l0]) (ev_pos (by decide) (ev_pos (by decide) (ev_pos (by decide) ?_)))
    rw [r1, w2]
    refine ev_if (fun h => ev_now (by rw [if_pos h])) (fun h => ?_)
    rw [if_neg h]
    refine Ev.step (fun k => by rw [slices_Index_int_int.l0]) (ev_pos (by decide) (ev_pos (by decide) (ev_pos (by decide) ?_)))
    rw [r2, w3]
    refine ev_if (fun h => ev_now (by rw [if_pos h])) (fun h => ?_)
    rw [if_neg h]
    refine Ev.step (fun k => by rw [slices_Index_int_int.l0]) (ev_pos (by decide) (ev_pos (by decide) (ev_pos (by decide) ?_)))
    rw [r3, w4]
    refine ev_if (fun h => ev_now (by rw [if_pos h])) (fun h => ?_)
    rw [if_neg h]
    exact Ev.step (fun k => by rw [slices_Index_int_int.l0]) (ev_neg (by decide) (ev_now rfl))
  refine Ev.bind hidx (ev_now ?_)
  by_cases h1 : x = 8
  · simp [h1]
  · by_cases h2 : x = 16
    · simp [h2]
    · by_cases h3 : x = 32
      · simp [h3]
      · by_cases h4 : x = 64
        · simp [h4]
        · simp [h1, h2, h3, h4]

/-! ### The two loops -/
theorem and_top (x : Int) (h0 : 0 ≤ x) (h1 : x < 18446744073709551616) : Go.bits .and .u64 x 4294967295 = x % 4294967296 :=
  bits_mask .u64 64 (by decide) (fun n h0 h1 => by simp [IntKind.wrap, IntKind.bits, IntKind.signed]; omega) 32 (by decide) x h0 h1
theorem wrap_u64 (x : Int) (h0 : 0 ≤ x) (h1 : x < 18446744073709551616) : IntKind.u64.wrap x = x := by
  simp [IntKind.wrap, IntKind.bits, IntKind.signed]
  omega

/-- One byte: what the program does with the list is what the reference's put does. -/
theorem ev_byte (l : List S36) (a b : Int) (hs : Srt l) (hl : l.length ≤ 5000) :
    ∃ (n : Int) (f : Bool) (l2 : List S36), Srt l2 ∧ l2.length ≤ l.length + 1 ∧ Ev (fun k => api_Cell_uint64.f k l a) (n, f) ∧ Ev (fun k => retargetref19_put.f k l a b) l2 ∧
      (f = true → b = 0 → api_Cell_16.f l n (wrap64 (n + 1)) = some l2) ∧ (f = true → ¬ b = 0 → 0 ≤ n ∧ n < l.length ∧ l.set n.toNat (⟨(rd_T36 l n).f0, b⟩ : S36) = l2) ∧
      (f = false → b = 0 → l2 = l) ∧ (f = false → ¬ b = 0 → api_Cell_17.f l n ([(⟨a, b⟩ : S36)] : List S36) = some l2) := by
  rcases split_at l a hs with ⟨p, r, rfl, hp, hr⟩ | ⟨p, y, r, rfl, hy, hp, hr⟩
  · have hn : ¬ (p.length : Int) < (p ++ r).length ∨ (rd_T36 (p ++ r) (p.length : Int)).f0 ≠ a := by
      cases r with
      | nil => exact .inl (by simp)
      | cons z r =>
        right
        rw [rd_mid]
        have := hr z (by simp)
        omega
    refine ⟨p.length, false, p ++ (if b = 0 then [] else [⟨a, b⟩]) ++ r, ?_, ?_, ?_, ?_, (fun h => by cases h), (fun h => by cases h), fun _ hb => ?_, fun _ hb => ?_⟩
    · refine srt_new hs ⟨[], by simp⟩ hp hr ?_
      split
      · exact .inl rfl
      · exact .inr ⟨_, rfl, rfl⟩
    · simp only [List.length_append]
      split <;> simp
      omega
    · refine ev_search p r a false hp (fun x hx => Int.le_of_lt (hr x hx)) (by omega) (fun h => ?_) (fun _ => rfl)
      rcases hn with hn | hn
      · exact absurd h hn
      · simpa using hn
    · have := ev_put p [] r a b hp (by simp) hr (by simpa using (show (p ++ r).length ≤ 1000000 by omega))
      simpa using this
    · rw [if_pos hb]
      simp
    · unfold api_Cell_17.f
      rw [if_pos (by omega), if_pos (by rw [List.length_append]; omega), if_pos (by omega), if_neg hb]
      simp
  · have hlt : (p.length : Int) < (p ++ y :: r).length := by simp; omega
    have hrd := rd_mid p r y
    refine ⟨p.length, true, p ++ (if b = 0 then [] else [⟨a, b⟩]) ++ r, ?_, ?_, ?_, ?_, fun _ hb => ?_, fun _ hb => ⟨by omega, hlt, ?_⟩, (fun h => by cases h), (fun h => by cases h)⟩
    · refine srt_new hs ⟨[y], by simp⟩ hp hr ?_
      split
      · exact .inl rfl
      · exact .inr ⟨_, rfl, rfl⟩
    · simp only [List.length_append, List.length_cons]
      split <;> simp <;> omega
    · refine ev_search p (y :: r) a true hp (fun x hx => ?_) (by omega) (fun h => ?_) (fun h => absurd hlt h)
      · rcases List.mem_cons.1 hx with rfl | hx
        · omega
        · exact Int.le_of_lt (hr x hx)
      · rw [hrd, hy]
        simp
    · have := ev_put p [y] r a b hp (by simpa using hy) hr (by simpa using (show (p ++ y :: r).length ≤ 1000000 by omega))
      simpa using this
    · unfold api_Cell_16.f
      rw [wrap_id (by omega) (by omega), if_pos (by omega), if_pos hlt, if_pos rfl, if_pos hb, Int.toNat_natCast]
      congr 1
      simp [List.eraseIdx_append_of_length_le]
    · rw [hrd, hy, if_neg hb, Int.toNat_natCast]
      simp

theorem ev_loops (a0 x0 : Int) (m : Nat) (hm : m ≤ 8) (ha : 0 ≤ a0) (ha1 : a0 ≤ 4294967295) (hx : 0 ≤ x0) (hx1 : x0 < 18446744073709551616) :
    ∀ (d j : Nat) (l : List S36), j + d = m → Srt l → l.length ≤ 4096 + j → ∃ r : List S36 × Int, r.1.length ≤ 4096 ∧
      Ev (fun k => interpret_Store.l0 k a0 (8 * (m : Int)) x0 l (8 * (j : Int))) r ∧ Ev (fun k => retargetref19_Store.l0 k ((a0 + j) % 4294967296) (8 * (m : Int)) (x0 / 2 ^ (8 * j)) l (j : Int)) r := by
  intro d
  have htd : ∀ n : Nat, Int.tdiv (8 * (n : Int)) 8 = n := fun n => by rw [Int.tdiv_eq_ediv_of_nonneg (by omega)]; omega
  induction d with
  | zero =>
    intro j l hj hs hl
    obtain rfl : j = m := by omega
    have hw : wrap64 (Int.tdiv (8 * (j : Int)) 8) = j := by rw [htd, wrap_id (by omega) (by omega)]
    by_cases h : (l.length : Int) > 4096
    · refine ⟨([], 20), by simp, Ev.step (fun k => by rw [interpret_Store.l0]) (ev_neg (by omega) (ev_pos h (ev_now rfl))), Ev.step (fun k => by rw [retargetref19_Store.l0]) (ev_neg (by rw [hw]; omega) (ev_pos h (ev_now rfl)))⟩
    · refine ⟨(l, 0), by simp; omega, Ev.step (fun k => by rw [interpret_Store.l0]) (ev_neg (by omega) (ev_neg h (ev_now rfl))), Ev.step (fun k => by rw [retargetref19_Store.l0]) (ev_neg (by rw [hw]; omega) (ev_neg h (ev_now rfl)))⟩
  | succ d ih =>
    intro j l hj hs hl
    have hw : wrap64 (Int.tdiv (8 * (m : Int)) 8) = m := by rw [htd, wrap_id (by omega) (by omega)]
    have hwj : wrap64 (Int.tdiv (8 * (j : Int)) 8) = j := by rw [htd, wrap_id (by omega) (by omega)]
    have hto : Go.bits .and .u64 (IntKind.u64.wrap (a0 + IntKind.u64.wrap (wrap64 (Int.tdiv (8 * (j : Int)) 8)))) 4294967295 = (a0 + j) % 4294967296 := by
      rw [hwj, wrap_u64 j (by omega) (by omega), wrap_u64 _ (by omega) (by omega), and_top _ (by omega) (by omega)]
    obtain ⟨q, hq⟩ : ∃ q, q = x0 / 2 ^ (8 * j) := ⟨_, rfl⟩
    have hq0 : 0 ≤ q := by rw [hq]; exact Int.ediv_nonneg hx (Int.le_of_lt (Int.pow_pos (by omega)))
    have hq1 : q ≤ x0 := by rw [hq]; exact Int.ediv_le_self _ hx
    have hsh : shr .u64 x0 (8 * (j : Int)) = q := by
      unfold shr
      have : IntKind.u64.bits = 64 := rfl
      rw [this, Nat.min_eq_left (by omega), hq, show (8 * (j : Int)).toNat = 8 * j by omega]
    have hqn : x0 / 2 ^ (8 * (j + 1)) = q / 256 := by
      rw [hq, Int.ediv_ediv_of_nonneg (Int.le_of_lt (Int.pow_pos (by omega))), show 8 * (j + 1) = 8 * j + 8 by omega, Int.pow_add]
      rfl
    obtain ⟨n, f, l2, hs2, hl2, e1, e2, c1, c2, c3, c4⟩ := ev_byte l ((a0 + j) % 4294967296) (q % 256) hs (by omega)
    obtain ⟨r, hr, h1, h2⟩ := ih (j + 1) l2 (by omega) hs2 (by omega)
    have hi8 : wrap64 (8 * (j : Int) + 8) = 8 * ((j + 1 : Nat) : Int) := by rw [wrap_id (by omega) (by omega)]; omega
    refine ⟨r, hr, ?_, ?_⟩
    · refine Ev.step (fun k => by rw [interpret_Store.l0]) (ev_pos (by omega) (ev_pos (by omega) ?_))
      rw [hto, hsh]
      refine Ev.bind e1 ?_
      cases f with
      | true =>
        refine ev_pos rfl (Ev.step (fun k => by rw [interpret_Store.j2]) ?_)
        rw [hi8]
        by_cases hb : q % 256 = 0
        · refine ev_pos (by simpa using hb) (ev_bindc (c1 rfl hb) h1)
        · obtain ⟨g1, g2, g3⟩ := c2 rfl hb
          refine ev_neg (by simpa using hb) (ev_pos rfl (ev_pos g1 (ev_pos g2 ?_)))
          rw [g3]
          exact h1
      | false =>
        refine ev_neg (by simp) (Ev.step (fun k => by rw [interpret_Store.j2]) ?_)
        rw [hi8]
        refine ev_neg (by simp) (ev_neg (by simp) ?_)
        by_cases hb : q % 256 = 0
        · refine ev_pos hb ?_
          rw [c3 rfl hb] at h1
          exact h1
        · exact ev_neg hb (ev_bindc (c4 rfl hb) h1)
    · refine Ev.step (fun k => by rw [retargetref19_Store.l0]) (ev_pos (by rw [hw]; omega) ?_)
      rw [← hq]
      have hb : Int.tmod q 256 % 256 = q % 256 := by rw [Int.tmod_eq_emod_of_nonneg hq0]; omega
      have hdv : IntKind.u64.wrap (Int.tdiv q 256) = q / 256 := by rw [Int.tdiv_eq_ediv_of_nonneg hq0, wrap_u64 _ (by omega) (by omega)]
      rw [hb, hdv, wrap_id (n := (j : Int) + 1) (by omega) (by omega)]
      rw [hqn] at h2
      refine Ev.bind e2 (ev_if (fun ht => ?_) (fun ht => ?_))
      · rw [show (a0 + ((j + 1 : Nat) : Int)) % 4294967296 = 0 by omega] at h2
        exact h2
      · rw [wrap_u64 _ (by omega) (by omega)]
        rw [show (a0 + ((j + 1 : Nat) : Int)) % 4294967296 = (a0 + (j : Int)) % 4294967296 + 1 by omega] at h2
        exact h2
end Go.Proofs.Ytpogkinegkfokaa.PureB
