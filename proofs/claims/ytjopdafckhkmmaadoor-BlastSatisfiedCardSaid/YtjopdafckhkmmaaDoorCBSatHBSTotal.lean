/- blast.total, by hand. -/
import Derived.Test.YtjopdafckhkmmaaDoorCBSatHBSCost
set_option linter.unusedVariables false
set_option linter.unusedSimpArgs false
namespace Go.Proofs.YtjopdafckhkmmaaDoor.MBS
open Go.Proofs.YtjopdafckhkmmaaDoor.Zed Go.RowKit Go.Proofs.YtjopdafckhkmmaaDoorW.PrintWords Go.Proofs.YtjopdafckhkmmaaDoorW.PrintLast Go.Proofs.YtjopdafckhkmmaaDoorW.PrintMore
attribute [local go_sem] Oper.semAt_some
theorem costF_le {x : Tm} (h : CN x) : 0 ≤ costF x ∧ costF x ≤ 163840 := by
  obtain ⟨h0, h1, h2, h3, _⟩ := h
  have a1 : 0 ≤ costW x * costW x := Int.mul_nonneg h2 h2
  have a2 : costW x * costW x ≤ 64 * 64 := Int.mul_le_mul h3 h3 h2 q29_
  have e1 : 20 * costW x * costW x = 20 * (costW x * costW x) := Int.mul_assoc _ _ _
  have e2 : 40 * costW x * costW x = 40 * (costW x * costW x) := Int.mul_assoc _ _ _
  unfold costF
  rw [e1, e2]
  generalize costW x * costW x = q at a1 a2 ⊢
  split
  · omega
  · split
    · omega
    · split
      · omega
      · split
        · omega
        · split
          · omega
          · split
            · omega
            · split <;> omega
/-- The cost of nodes. -/
def totF (l : List Tm) : Int := (l.map costF).sum
theorem totF_cons (x : Tm) (l : List Tm) : totF (x :: l) = costF x + totF l := by simp [totF]
theorem totF_append (a b : List Tm) : totF (a ++ b) = totF a + totF b := by simp [totF]
theorem totF_le : ∀ (l : List Tm), (∀ y ∈ l, CN y) → 0 ≤ totF l ∧ totF l ≤ 163840 * (l.length : Int)
  | [], _ => by simp [totF]
  | x :: l, h => by
    have h1 := costF_le (h x (by simp))
    have h2 := totF_le l (fun y hy => h y (by simp [hy]))
    rw [totF_cons, List.length_cons]
    omega
set_option maxRecDepth 100000 in
set_option maxHeartbeats 1000000 in
theorem total_calls (w0 : World) : ∀ (k : Nat) (x : Tm) (cs : List Value) (w : World), (nd x).length ≤ k → (nd x).length ≤ 1000000 → (∀ y ∈ nd x, CN y) → kT.K w0 x cs → Below w0.heap.size w0 w →
    Calls Tryd.prog 25 #[.agg cs.toArray] w fun e w' => e = .returned (.int .i64 (totF (nd x))) ∧ Below w.heap.size w w' := by
  intro k
  induction k with
  | zero => intro x cs w hk; rw [nd_eq] at hk; simp at hk
  | succ k ih =>
    intro x cs w hk hlen hcn hK hb0
    have hcx := hcn x (by rw [nd_eq]; simp)
    have hcost : ∀ W', Below w.heap.size w W' → Calls Tryd.prog 43 #[.agg cs.toArray] W' fun e w' => e = .returned (.int .i64 (costF x)) ∧ Below W'.heap.size W' w' := fun W' hW' => cost_calls x cs W' (kT.K_below (hb0.trans (hW'.mono hb0.size)) hK) hcx
    obtain ⟨A5, c5, rfl, l5, g5⟩ := k25_open hK
    have hu25 := Tryd.underlying25
    have hm := g5.2.1
    obtain ⟨sub, hsub⟩ : ∃ sub, sub = x.f5 := ⟨_, rfl⟩
    have hnd : nd x = x :: ndL sub := by rw [hsub]; exact nd_eq x
    obtain ⟨bx, hbx⟩ : ∃ bx, bx = Obj.cells #[.int .u8 x.f0, .int .i64 x.f1, .int .u64 x.f2, .string x.f3, .int .i64 x.f4, .slice A5 x.f5.length c5] 25 (0, 0) := ⟨_, rfl⟩
    have HB1 := Aside0.mk (below_alloc (Below.refl w.heap.size w) bx)
    have bX := blk_new w bx
    rw [hnd] at hk hlen hcn ⊢
    rw [List.length_cons] at hk hlen
    have hT := totF_le (ndL sub) (fun y hy => hcn y (by simp [hy]))
    have hPre : ∀ i : Nat, i ≤ sub.length → 0 ≤ totF (ndL (sub.take i)) ∧ totF (ndL (sub.take i)) ≤ 163840 * 1000000 := fun i hi => by
      have h1 := totF_le (ndL (sub.take i)) (fun y hy => hcn y (by
        rw [List.mem_cons]; right
        rw [← List.take_append_drop i sub, ndL_append]; simp [hy]))
      have h2 : (ndL (sub.take i)).length ≤ (ndL sub).length := by
        conv => rhs; rw [← List.take_append_drop i sub, ndL_append]
        simp
      omega
    have hIH : ∀ (i : Nat) (hi : i < sub.length) (cs' : List Value) (W' : World), kT.K w0 sub[i] cs' → Below w0.heap.size w0 W' →
        Calls Tryd.prog 25 #[.agg cs'.toArray] W' fun e w' => e = .returned (.int .i64 (totF (nd sub[i]))) ∧ Below W'.heap.size W' w' := fun i hi cs' W' hk' hb' =>
      ih sub[i] cs' W' (by have := ndL_len sub i hi; omega) (by have := ndL_len sub i hi; omega) (fun y hy => hcn y (List.mem_cons_of_mem _ (ndL_mem sub i hi y hy))) hk' hb'
    have hSt : ∀ (i : Nat) (hi : i < sub.length), totF (ndL (sub.take (i + 1))) = totF (ndL (sub.take i)) + totF (nd sub[i]) := fun i hi => by rw [ndL_take_succ sub i hi, totF_append]
    have hc0 := costF_le hcx
    rw [← hsub] at g5 l5 hm hbx
    have HIH := Aside0.mk hIH
    have HST := Aside0.mk hSt
    have HPRE := Aside0.mk hPre
    have HG := Aside0.mk g5
    have HB0 := Aside0.mk hb0
    have HC := Aside0.mk (hcost (w.alloc bx) HB1.out)
    obtain ⟨cx, hcx'⟩ : ∃ c, c = costF x := ⟨_, rfl⟩
    rw [totF_cons, ← hcx']
    rw [← hcx'] at HC hc0
    rw [← hsub] at HC
    clear hIH hSt hPre ih hk hlen hcn g5 hb0 hcost hK hcx l5 hT hnd hcx'
    have q5 := (blk_cell (show (w.alloc bx).heap[w.heap.size]? = _ by rw [← hbx]; exact bX) 5).trans (show _ = some (Value.slice A5 sub.length c5) from rfl)
    have q0 := (blk_cell (show (w.alloc bx).heap[w.heap.size]? = _ by rw [← hbx]; exact bX) 0).trans (show _ = some (Value.int .u8 x.f0) from rfl)
    rw [← hsub]
    clear hsub bX
    subst hbx
    go_enter Tryd.func25, Tryd.ntmps25
    go_wp2_with (go_at_call 43; with_reducible refine HC.out.mono ?_; rintro e w1 ⟨rfl, hb1⟩; have BX1 := Aside0.mk (blk_below (blk_new w (.cells #[.int .u8 x.f0, .int .i64 x.f1, .int .u64 x.f2, .string x.f3, .int .i64 x.f4, .slice A5 sub.length c5] 25)) hb1); have B1 := Aside0.mk (below_step HB1.out hb1); clear hb1 q0 q5; have q5 := (blk_cell BX1.out 5).trans (show _ = some (Value.slice A5 sub.length c5) from rfl))
    go_loopw [3, 11] (fun v3 v11 wr => ∃ i : Nat, v11 = .int .i64 i ∧ i ≤ sub.length ∧ v3 = .int .i64 (cx + totF (ndL (sub.take i))) ∧ Aside0 (Below w.heap.size w wr)) (fun v3 v11 _ => sub.length - (intOf v11).toNat)
    case atStart => exact ⟨0, rfl, Nat.zero_le _, by simp [ndL, totF], B1⟩
    case round =>
      obtain ⟨i, rfl, hi, rfl, HB⟩ := hrel
      by_cases hlt : i < sub.length
      · obtain ⟨ad, A', c', rfl, p0, p1, p2, p3, p4, p5, l', g'⟩ := at_T25 HG.out (i : Int) q29_ q29_
        have hrd : rd_T25 sub (i : Int) = sub[i] := by simp [rd_T25, List.getD_eq_getElem?_getD, hlt]
        rw [hrd] at p0 p1 p2 p3 p4 p5 l' g'
        have hbw : Below w0.heap.size w0 wr := HB0.out.trans (HB.out.mono HB0.out.size)
        replace p0 := (hbw.cell (World.block_lt_of_cell? w0 _ p0)).trans p0
        replace p1 := (hbw.cell (World.block_lt_of_cell? w0 _ p1)).trans p1
        replace p2 := (hbw.cell (World.block_lt_of_cell? w0 _ p2)).trans p2
        replace p3 := (hbw.cell (World.block_lt_of_cell? w0 _ p3)).trans p3
        replace p4 := (hbw.cell (World.block_lt_of_cell? w0 _ p4)).trans p4
        replace p5 := (hbw.cell (World.block_lt_of_cell? w0 _ p5)).trans p5
        simp only [Int.toNat_natCast] at p0 p1 p2 p3 p4 p5
        have hb2 := below_alloc HB.out (.cells #[.int .u8 sub[i].f0, .int .i64 sub[i].f1, .int .u64 sub[i].f2, .string sub[i].f3, .int .i64 sub[i].f4, .slice A' sub[i].f5.length c'] 25)
        have hih := HIH.out i hlt _ (wr.alloc (.cells #[.int .u8 sub[i].f0, .int .i64 sub[i].f1, .int .u64 sub[i].f2, .string sub[i].f3, .int .i64 sub[i].f4, .slice A' sub[i].f5.length c'] 25)) (k25_mk w0 sub[i] l' g') (HB0.out.trans (hb2.mono HB0.out.size))
        have hst := HST.out i hlt
        have hp1 := (HPRE.out i q29_)
        have hp2 := (HPRE.out (i + 1) q29_)
        obtain ⟨t1, ht1⟩ : ∃ t, t = totF (ndL (sub.take i)) := ⟨_, rfl⟩
        obtain ⟨t2, ht2⟩ : ∃ t, t = totF (nd sub[i]) := ⟨_, rfl⟩
        rw [← ht1, ← ht2] at hst
        rw [hst] at hp2
        rw [← ht1] at hp1
        rw [← ht2] at hih
        obtain ⟨y, hy⟩ : ∃ y, y = sub[i] := ⟨_, rfl⟩
        rw [← hy] at p0 p1 p2 p3 p4 p5 hih hb2
        have HI := Aside0.mk hih
        have HB2 := Aside0.mk hb2
        have HS := Aside0.mk hst
        have ht1' := ht1
        rw [← ht1]
        clear hih hst hy hbw g' l' hrd ht1 ht2 ht1' hb2
        go_wp2_with (go_at_call 25; refine HI.out.mono ?_; rintro e w3 ⟨rfl, hb3⟩; have B3 := Aside0.mk (below_step HB2.out hb3); clear hb3)
        go_roundw
        case measure => simp [intOf]; omega
        case rel => exact ⟨i + 1, by go_num, hlt, by rw [HS.out, Int.add_assoc], B3⟩
      · obtain rfl : i = sub.length := by omega
        rw [List.take_length]
        go_wp2
        go_ret
        exact ⟨rfl, HB.out⟩
end Go.Proofs.YtjopdafckhkmmaaDoor.MBS
