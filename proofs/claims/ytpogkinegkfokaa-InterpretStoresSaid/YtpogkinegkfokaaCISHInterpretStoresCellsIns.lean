/- slices.Insert at []api.Cell, by hand: at the end, with room, without room. No condition. -/
import Derived.Test.YtpogkinegkfokaaCISHInterpretStoresCells
import Derived.Lib.AppendZerosOnto
set_option linter.unusedVariables false
set_option linter.unusedSimpArgs false
namespace Go.Proofs.Ytpogkinegkfokaa.MInterpretStores
open Go.Proofs.Ytpogkinegkfokaa.Zed Go.RowKit Go.Proofs.YtpogkinegkfokaaW.PrintWords Go.Proofs.YtpogkinegkfokaaW.PrintLast Go.Proofs.YtpogkinegkfokaaW.PrintMore

/-- What a copy into a block of cells does: told by what stands there afterwards. -/
theorem copy36 (W : World) (g o dLen : Nat) (a : Addr) (sLen m : Nat) (cur : Array Value) (zs : List S36)
    (hg : W.heap[g]? = some (.cells cur 36 (0, 0))) (hm : m = Nat.min sLen dLen) (hz : zs.length = m)
    (hsrc : ∀ j v, (fl zs)[j]? = some v → W.cell? (a.add j) = some v) (hfit : o + m * 2 ≤ cur.size) :
    ∃ W' cur', (∀ ty dCap sCap, (Builtin.copy_ #[22, 22] ty #[.slice (some ⟨g, o, none⟩) dLen dCap, .slice (some a) sLen sCap]).run Try.prog W = .ok (goInt m) W') ∧
      W'.heap[g]? = some (.cells cur' 36 (0, 0)) ∧ cur'.size = cur.size ∧ cur'.toList = cur.toList.take o ++ fl zs ++ cur.toList.drop (o + m * 2) ∧ W.grownBy W' (some g) := by
  obtain ⟨i, hi, hzz⟩ := Option.map_eq_some_iff.1 info36
  simp only [Prod.mk.injEq] at hzz
  obtain ⟨hz0, hz1, hz2⟩ := hzz
  have hl : (fl zs).length = m * 2 := by rw [fl_length, hz]
  refine ⟨_, (cur.toList.take o ++ fl zs ++ cur.toList.drop (o + (fl zs).length)).toArray, fun ty dCap sCap => ?_, setRow_heap W g cur _ 36 (0, 0) hg, ?_, ?_, ⟨rfl, rfl, rfl, by simp [World.setRow], fun k hk hne => setRow_other W g k _ (fun e => hne (by rw [e]))⟩⟩
  · rw [hm]
    exact run_copy_size W 22 ty 36 i Try.underlying22 hi g o dLen dCap a sLen sCap cur 36 (fl zs) hg (by rw [hl, hz1, hm]) hsrc (by rw [hl]; exact hfit) (fl_one zs)
  · simp [hl]
    omega
  · rw [hl]
theorem get_of_take {l : List Value} {y : S36} (h : l.take 2 = fl [y]) {j : Nat} {v : Value} (hj : (fl [y])[j]? = some v) : l[j]? = some v := by
  rw [← h, List.getElem?_take] at hj
  split at hj
  · exact hj
  · cases hj
theorem take3 {p a b : List Value} {n : Nat} (h : n = p.length + a.length) : (p ++ a ++ b).take n = p ++ a := by
  subst h
  exact List.take_left' (by simp)

/-- In place: the cells behind i moved up, then the new one put at i. -/
theorem shift36 (w W0 : World) (cv : Array Value) (base g n c i vb vc : Nat) (ok : Nat → Prop) (xs : List S36) (y : S36) (hr : Kd.R k36 36 W0 base ok (.slice (some ⟨g, 0, none⟩) n c) xs) (hB : Below base w W0) (hG : w.grownBy W0 (some g))
    (hv : W0.heap[vb]? = some (.cells cv 36 (0, 0))) (hcv : cv.toList.take 2 = fl [y]) (hne : vb ≠ g) (hi : i < n) (hroom : n + 1 ≤ c) :
    ∃ W1 W2, (∀ ty dc sc, (Builtin.copy_ #[22, 22] ty #[.slice (some ⟨g, (i + 1) * 2, none⟩) (n + 1 - (i + 1)) dc, .slice (some ⟨g, i * 2, none⟩) (n + 1 - i) sc]).run Try.prog W0 = .ok (goInt ((n - i : Nat) : Int)) W1) ∧
      (∀ ty dc, (Builtin.copy_ #[22, 22] ty #[.slice (some ⟨g, i * 2, none⟩) (n + 1 - i) dc, .slice (some ⟨vb, 0, none⟩) 1 vc]).run Try.prog W1 = .ok (goInt 1) W2) ∧
      Kd.R k36 36 W2 base ok (.slice (some ⟨g, 0, none⟩) (n + 1) c) (xs.take i ++ y :: xs.drop i) ∧ Below base w W2 ∧ w.grownBy W2 (some g) := by
  obtain ⟨h1, h2, h3, h4, h5, cur, h6, h7, h8⟩ := R_open hr
  have hxl : (xs.drop i).length = n - i := by rw [List.length_drop, h1]
  have hcell : ∀ j v, (fl (xs.drop i))[j]? = some v → W0.cell? ((⟨g, i * 2, none⟩ : Addr).add j) = some v := by
    intro j v hj
    rw [add_at, blk_cell h6, ← Array.getElem?_toList]
    rw [← fl_drop, List.getElem?_drop, ← h8, List.getElem?_take] at hj
    split at hj
    · exact hj
    · cases hj
  obtain ⟨W1, cur1, r1, b1, s1, t1, g1⟩ := copy36 W0 g ((i + 1) * 2) (n + 1 - (i + 1)) ⟨g, i * 2, none⟩ (n + 1 - i) (n - i) cur (xs.drop i) h6 (by simp only [Nat.min_def]; split <;> omega) hxl hcell (by omega)
  have hv1 : W1.heap[vb]? = some (.cells cv 36 (0, 0)) := blk_grown hv g1 (by simpa using hne)
  have hcell2 : ∀ j v, (fl [y])[j]? = some v → W1.cell? ((⟨vb, 0, none⟩ : Addr).add j) = some v := by
    intro j v hj
    rw [add_at, blk_cell hv1, ← Array.getElem?_toList, Nat.zero_add]
    exact get_of_take hcv hj
  obtain ⟨W2, cur2, r2, b2, s2, t2, g2⟩ := copy36 W1 g (i * 2) (n + 1 - i) ⟨vb, 0, none⟩ 1 1 cur1 [y] b1 (by simp only [Nat.min_def]; split <;> omega) rfl hcell2 (by omega)
  have hG2 : w.grownBy W2 (some g) := ⟨g2.os.trans (g1.os.trans hG.os), g2.tape.trans (g1.tape.trans hG.tape), g2.output.trans (g1.output.trans hG.output), Nat.le_trans hG.size (Nat.le_trans g1.size g2.size), fun j hj hn => (g2.block j (Nat.lt_of_lt_of_le hj (Nat.le_trans hG.size g1.size)) hn).trans ((g1.block j (Nat.lt_of_lt_of_le hj hG.size) hn).trans (hG.block j hj hn))⟩
  refine ⟨W1, W2, fun ty dc sc => ?_, fun ty dc => ?_, R_close (cur := cur2) ?_ hroom h3 h4 h5 b2 (by rw [s2, s1, h7]) ?_, ?_, hG2⟩
  · exact r1 ty dc sc
  · exact r2 ty dc vc
  · simp [h1]
    omega
  · rw [t2, t1]
    have e1 : cur.toList.take (i * 2) = fl (xs.take i) := by rw [← fl_take, ← h8, List.take_take, Nat.min_eq_left (by omega)]
    have ha : (cur.toList.take ((i + 1) * 2)).length = (i + 1) * 2 := by rw [List.length_take, Array.length_toList]; omega
    have e2 : (cur.toList.take ((i + 1) * 2) ++ fl (xs.drop i) ++ cur.toList.drop ((i + 1) * 2 + (n - i) * 2)).take (i * 2) = fl (xs.take i) := by
      rw [List.append_assoc, List.take_append_of_le_length (by omega), List.take_take, Nat.min_eq_left (by omega), e1]
    have e3 : (cur.toList.take ((i + 1) * 2) ++ fl (xs.drop i) ++ cur.toList.drop ((i + 1) * 2 + (n - i) * 2)).drop (i * 2 + 1 * 2) = fl (xs.drop i) ++ cur.toList.drop ((i + 1) * 2 + (n - i) * 2) := by
      rw [List.append_assoc, show i * 2 + 1 * 2 = (i + 1) * 2 by omega]
      exact List.drop_left' ha
    rw [e2, e3, fl_append, ← List.append_assoc]
    rw [take3 (by simp only [List.length_append, fl_length, hxl, List.length_take, List.length_cons, List.length_nil]; omega)]
    simp [fl]
  · refine hB.grown (row := some g) ⟨g2.os.trans g1.os, g2.tape.trans g1.tape, g2.output.trans g1.output, Nat.le_trans g1.size g2.size, fun j hj hn => (g2.block j (Nat.lt_of_lt_of_le hj g1.size) hn).trans (g1.block j hj hn)⟩ (Nat.le_trans h4 (Nat.le_of_lt (blk_lt h6))) (fun k hk => by injection hk with hk; omega)

/-- No room: a new row, the elder ones ahead of i, the new one, and the others behind it. -/
theorem grow36 (w : World) (cv : Array Value) (base g n c i vb vc : Nat) (ok : Nat → Prop) (xs : List S36) (y : S36) (hr : Kd.R k36 36 w base ok (.slice (some ⟨g, 0, none⟩) n c) xs)
    (hv : w.heap[vb]? = some (.cells cv 36 (0, 0))) (hcv : cv.toList.take 2 = fl [y]) (hi : i < n) (hroom : c < n + 1) (hl : n < 8796093022206) (hfresh : ∀ k, w.heap.size ≤ k → ok k) :
    ∃ N G W1 W2, n + 1 ≤ G ∧ G ≤ 9223372036854775807 ∧
      (∀ ty, (Builtin.append_ #[22, 3] ty #[.slice (some ⟨g, 0, none⟩) i c, .int .i64 ((n + 1 - i : Nat) : Int)]).run Try.prog w = .ok (.slice (some ⟨N, 0, none⟩) (n + 1) G) W1) ∧
      (∀ ty dc, (Builtin.copy_ #[22, 22] ty #[.slice (some ⟨N, i * 2, none⟩) (n + 1 - i) dc, .slice (some ⟨vb, 0, none⟩) 1 vc]).run Try.prog W1 = .ok (goInt 1) W2) ∧
      ∃ W3, (∀ ty dc sc, (Builtin.copy_ #[22, 22] ty #[.slice (some ⟨N, (i + 1) * 2, none⟩) (n + 1 - (i + 1)) dc, .slice (some ⟨g, i * 2, none⟩) (n - i) sc]).run Try.prog W2.drew = .ok (goInt ((n - i : Nat) : Int)) W3) ∧
      Kd.R k36 36 W3 base ok (.slice (some ⟨N, 0, none⟩) (n + 1) G) (xs.take i ++ y :: xs.drop i) ∧ Below base w W3 ∧ w.grownBy W3 (some g) := by
  obtain ⟨h1, h2, h3, h4, h5, cur, h6, h7, h8⟩ := R_open hr
  obtain ⟨i0, hi0, hzz⟩ := Option.map_eq_some_iff.1 info36
  simp only [Prod.mk.injEq] at hzz
  obtain ⟨hz0, hz1, hz2⟩ := hzz
  have hgs := blk_lt h6
  have hvs := blk_lt hv
  have hcn : c = n := by omega
  have hold : (Builtin.firstCells i0.size i (.slice (some ⟨g, 0, none⟩) i c)).run Try.prog w.drew = .ok (fl (xs.take i)).toArray w.drew := by
    rw [hz1]
    refine run_firstCells_some w.drew 2 i ⟨g, 0, none⟩ i c (fl (xs.take i)) (by rw [fl_length, List.length_take]; omega) (fun j v hj => ?_)
    have h6' : w.drew.heap[g]? = some (.cells cur 36 (0, 0)) := h6
    rw [add_at, blk_cell h6', ← Array.getElem?_toList, Nat.zero_add]
    rw [← fl_take, ← h8, List.take_take, Nat.min_eq_left (by omega), List.getElem?_take] at hj
    split at hj
    · exact hj
    · cases hj
  have hik : i + (n + 1 - i) = n + 1 := by omega
  have hap := fun ty => Lib.run_append_grow_zeros (P := Try.prog) w 22 3 ty 36 i0 _ .i64 .i64 Try.underlying22 Try.underlying3 hi0 hz0 (some ⟨g, 0, none⟩) i c (fl (xs.take i)) hold (n + 1 - i) (by omega) (by omega) (by omega) (by omega) (by rw [hz2]; omega) (by rw [hz2, hik]; exact growslice_fits (by omega) (by omega))
  rw [hik] at hap
  obtain ⟨G, hG⟩ : ∃ G, G = grownCap w (n + 1) c 36 := ⟨_, rfl⟩
  rw [← hG] at hap
  have hGn : n + 1 ≤ G := by rw [hG]; exact grownCap_ge w _ _ _
  have hGm : G ≤ maxLen := by rw [hG]; exact grownCap_le_maxLen w (n + 1) c 36 (by unfold maxLen; omega)
  have hzc : (Value.agg #[.int .u64 0, .int .u8 0]).cells.size = 2 := rfl
  obtain ⟨row, hrow⟩ : ∃ row : Array Value, row = (fl (xs.take i)).toArray ++ Builtin.zeroCells (Value.agg #[.int .u64 0, .int .u8 0]).cells (n + 1 - i) ++ Builtin.zeroCells (Value.agg #[.int .u64 0, .int .u8 0]).cells (G - (n + 1)) := ⟨_, rfl⟩
  rw [← hrow] at hap
  have hrs : row.size = G * 2 := by
    rw [hrow]
    simp only [Array.size_append, List.size_toArray, size_zeroCells, hzc, fl_length, List.length_take, h1]
    omega
  have hrt : row.toList.take (i * 2) = fl (xs.take i) := by
    rw [hrow]
    simp only [Array.toList_append, List.append_assoc]
    exact List.take_left' (by rw [fl_length, List.length_take]; omega)
  obtain ⟨W1, hW1⟩ : ∃ W1, W1 = w.drew.alloc (.cells row 36) := ⟨_, rfl⟩
  rw [← hW1] at hap
  have b1 : W1.heap[w.heap.size]? = some (.cells row 36 (0, 0)) := by rw [hW1]; exact blk_new w.drew _
  have g1 : w.grownBy W1 (some g) := by
    rw [hW1]
    exact ⟨rfl, rfl, rfl, by simp, fun k hk hn => heap_alloc_old w.drew _ hk⟩
  have hold1 : ∀ k o, w.heap[k]? = some o → W1.heap[k]? = some o := fun k o hk => by
    rw [hW1]
    exact (heap_alloc_old w.drew _ (blk_lt hk)).trans hk
  have hv1 := hold1 _ _ hv
  have hg1 := hold1 _ _ h6
  have hcell1 : ∀ j v, (fl [y])[j]? = some v → W1.cell? ((⟨vb, 0, none⟩ : Addr).add j) = some v := by
    intro j v hj
    rw [add_at, blk_cell hv1, ← Array.getElem?_toList, Nat.zero_add]
    exact get_of_take hcv hj
  obtain ⟨W2, cur2, r2, b2, s2, t2, g2⟩ := copy36 W1 w.heap.size (i * 2) (n + 1 - i) ⟨vb, 0, none⟩ 1 1 row [y] b1 (by simp only [Nat.min_def]; split <;> omega) rfl hcell1 (by omega)
  have b2' : W2.drew.heap[w.heap.size]? = some (.cells cur2 36 (0, 0)) := b2
  have hg2 : W2.drew.heap[g]? = some (.cells cur 36 (0, 0)) := blk_grown (w1 := W2) hg1 g2 (by simp; omega)
  have hxl : (xs.drop i).length = n - i := by rw [List.length_drop, h1]
  have hcell2 : ∀ j v, (fl (xs.drop i))[j]? = some v → W2.drew.cell? ((⟨g, i * 2, none⟩ : Addr).add j) = some v := by
    intro j v hj
    rw [add_at, blk_cell hg2, ← Array.getElem?_toList]
    rw [← fl_drop, List.getElem?_drop, ← h8, List.getElem?_take] at hj
    split at hj
    · exact hj
    · cases hj
  obtain ⟨W3, cur3, r3, b3, s3, t3, g3⟩ := copy36 W2.drew w.heap.size ((i + 1) * 2) (n + 1 - (i + 1)) ⟨g, i * 2, none⟩ (n - i) (n - i) cur2 (xs.drop i) b2' (by simp only [Nat.min_def]; split <;> omega) hxl hcell2 (by omega)
  have hblk : ∀ k, k < w.heap.size → W3.heap[k]? = w.heap[k]? := fun k hk => by
    have e1 : W1.heap[k]? = w.heap[k]? := by rw [hW1]; exact heap_alloc_old w.drew _ hk
    have hz1 : w.heap.size ≤ W1.heap.size := g1.size
    have hz2 : W1.heap.size ≤ W2.heap.size := g2.size
    rw [g3.block k (show k < W2.heap.size by omega) (by simp; omega)]
    exact (g2.block k (by omega) (by simp; omega)).trans e1
  have hsz : w.heap.size ≤ W3.heap.size := Nat.le_trans g1.size (Nat.le_trans g2.size g3.size)
  have hos : W3.os = w.os := g3.os.trans (g2.os.trans g1.os)
  have htp : W3.tape = w.tape := g3.tape.trans (g2.tape.trans g1.tape)
  have hou : W3.output = w.output := g3.output.trans (g2.output.trans g1.output)
  refine ⟨w.heap.size, G, W1, W2, hGn, by unfold maxLen at hGm; omega, hap, fun ty dc => r2 ty dc vc, W3, fun ty dc sc => r3 ty dc sc, R_close (cur := cur3) ?_ hGn hGm (by omega) (hfresh _ (Nat.le_refl _)) b3 (by rw [s3, s2, hrs]) ?_, ⟨hos, htp, hou, hsz, fun k hk => hblk k (by omega)⟩, ⟨hos, htp, hou, hsz, fun k hk _ => hblk k hk⟩⟩
  · simp [h1]
    omega
  · rw [t3, t2, hrt]
    have e4 : (fl (xs.take i) ++ fl [y] ++ row.toList.drop (i * 2 + 1 * 2)).take ((i + 1) * 2) = fl (xs.take i) ++ fl [y] := take3 (by simp only [fl_length, List.length_take, List.length_cons, List.length_nil]; omega)
    rw [e4, take3 (by simp only [List.length_append, fl_length, hxl, List.length_take, List.length_cons, List.length_nil]; omega)]
    rw [fl_append, List.append_assoc]
    simp [fl]

theorem one36 {w : World} {vb : Nat} {y : S36} {cv : Array Value} (hv : w.heap[vb]? = some (.cells cv 36 (0, 0))) (hcv : cv.toList.take 2 = fl [y]) : Kd.C k36 w (some ⟨vb, 0, none⟩) 1 [y] :=
  ⟨rfl, by omega, fun _ => ⟨_, rfl, fun j p hj => by
    cases j with
    | succ j => simp at hj
    | zero =>
      simp at hj
      subst hj
      refine ⟨_, rfl, k36_mk w y, fun i u hu => ?_⟩
      rw [add_at, blk_cell hv, ← Array.getElem?_toList]
      simpa using get_of_take hcv (show (fl [y])[i]? = some u from hu)⟩⟩
set_option maxHeartbeats 1000000 in
set_option maxRecDepth 100000 in
theorem insert_nil (cv : Array Value) (base vb vc : Nat) (ok : Nat → Prop) (y : S36) (w : World) 
    (hv : w.heap[vb]? = some (.cells cv 36 (0, 0))) (hcv : cv.toList.take 2 = fl [y]) (hb : base ≤ w.heap.size) (hfresh : ∀ k, w.heap.size ≤ k → ok k) :
    Calls Try.prog 17 #[.slice none 0 0, .int .i64 0, .slice (some ⟨vb, 0, none⟩) 1 vc] w fun e w' => ∃ v', e = .returned v' ∧ Kd.R k36 36 w' base ok v' [y] ∧ Below base w w' ∧ w.grownBy w' none := by
  have HO := Aside0.mk (Kd.R_nil k36 36 w base ok)
  have HY := Aside0.mk (one36 hv hcv)
  have HZ := Aside0.mk hb
  have HF := Aside0.mk hfresh
  clear hv hcv hb hfresh
  go_enter Try.func17, Try.ntmps17
  go_wp2_with (((with_reducible refine gate_builtin (b := .append) (xs := #[.tmp 23, .tmp 24]) rfl ?_); at_builtin; go_loud (refine Kd.R_append_rows k36 (w0 := w) base rfl (.tmp 23) (.tmp 24) 22 36 (.agg #[.int .u64 0, .int .u8 0]) 16 rfl Try.underlying22 info36 rfl (by decide) (by omega) (.slice none 0 0) [] [y] _ _ _ ok (fun _ => False) rfl rfl ?aO ?aR (fun _ _ h => h) (fun _ h => h.elim) ?aF ?aB ?aS ?aL ?_); (case aR => exact HY.out); (case aB => exact Below.refl _ _); (case aF => exact HF.out); (case aO => exact HO.out); (case aS => exact HZ.out); (case aL => simp); intro v2 w7 ho hb hg hat; have HE := Aside0.mk (And.intro ho (And.intro hb hg)); clear ho hb hg hat))
  go_ret
  exact ⟨_, rfl, HE.out⟩
set_option maxHeartbeats 1000000 in
set_option maxRecDepth 100000 in
theorem insert_end (cv : Array Value) (g n c base vb vc : Nat) (ok : Nat → Prop) (xs : List S36) (y : S36) (w : World) (hr : Kd.R k36 36 w base ok (.slice (some ⟨g, 0, none⟩) n c) xs)
    (hv : w.heap[vb]? = some (.cells cv 36 (0, 0))) (hcv : cv.toList.take 2 = fl [y]) (hb : base ≤ w.heap.size) (hl : n < 8796093022206) (hfresh : ∀ k, w.heap.size ≤ k → ok k) :
    Calls Try.prog 17 #[.slice (some ⟨g, 0, none⟩) n c, .int .i64 n, .slice (some ⟨vb, 0, none⟩) 1 vc] w fun e w' => ∃ v', e = .returned v' ∧ Kd.R k36 36 w' base ok v' (xs ++ [y]) ∧ Below base w w' ∧ w.grownBy w' (some g) := by
  obtain ⟨h1, h2, h3, _⟩ := R_open hr
  unfold maxLen at h3
  have HO := Aside0.mk hr
  have HY := Aside0.mk (one36 hv hcv)
  have HZ := Aside0.mk hb
  have HF := Aside0.mk hfresh
  have HN := Aside0.mk h1
  have HL := Aside0.mk hl
  clear hr hv hcv hb hfresh h1
  have hnn : (0 : Int) ≤ (n : Int) := by omega
  go_enter Try.func17, Try.ntmps17
  go_wp2_with (((with_reducible refine gate_builtin (b := .append) (xs := #[.tmp 23, .tmp 24]) rfl ?_); at_builtin; go_loud (refine Kd.R_append_rows k36 (w0 := w) base rfl (.tmp 23) (.tmp 24) 22 36 (.agg #[.int .u64 0, .int .u8 0]) 16 rfl Try.underlying22 info36 rfl (by decide) (by omega) (.slice (some ⟨g, 0, none⟩) n c) xs [y] _ _ _ ok (fun _ => False) rfl rfl ?aO ?aR (fun _ _ h => h) (fun _ h => h.elim) ?aF ?aB ?aS ?aL ?_); (case aR => exact HY.out); (case aB => exact Below.refl _ _); (case aF => exact HF.out); (case aO => exact HO.out); (case aS => exact HZ.out); (case aL => have := HN.out; have := HL.out; omega); intro v2 w7 ho hb hg hat; have HE := Aside0.mk (And.intro ho (And.intro hb hg)); clear ho hb hg hat))
  all_goals (go_ret; exact ⟨_, rfl, HE.out⟩)
def ins_T : Bool × List (List Nat × List Nat) := (true, [([], []), ([], []), ([], []), ([1, 2], [1, 2]), ([0, 3], [0, 3]), ([], []), ([], []), ([5, 6], [5, 6]), ([4, 7], [4, 7])])
def ins_B : List Nat := [0, 0, 0, 6, 15, 0, 0, 96, 255]
theorem ins_tab15 : rtab .any (opsOf Try.f17 15) = ins_T := by kernel_rfl
theorem ins_tab11 : rtab .any (opsOf Try.f17 11) = ins_T := by kernel_rfl
theorem ins_bits : waitsOk ins_T.2 ins_B = true := by kernel_rfl
set_option maxHeartbeats 1000000 in
set_option maxRecDepth 100000 in
theorem insert_room (cv : Array Value) (g n c i base vb vc : Nat) (ok : Nat → Prop) (xs : List S36) (y : S36) (w : World) (hr : Kd.R k36 36 w base ok (.slice (some ⟨g, 0, none⟩) n c) xs)
    (hv : w.heap[vb]? = some (.cells cv 36 (0, 0))) (hcv : cv.toList.take 2 = fl [y]) (hne : vb ≠ g) (hb : base ≤ w.heap.size) (hl : n < 8796093022206) (hi : i < n) (hroom : n + 1 ≤ c) :
    Calls Try.prog 17 #[.slice (some ⟨g, 0, none⟩) n c, .int .i64 i, .slice (some ⟨vb, 0, none⟩) 1 vc] w fun e w' => ∃ v', e = .returned v' ∧ Kd.R k36 36 w' base ok v' (xs.take i ++ y :: xs.drop i) ∧ Below base w w' ∧ w.grownBy w' (some g) := by
  obtain ⟨h1, h2, h3, h4, h5, cur, h6, h7, h8⟩ := R_open hr
  unfold maxLen at h3
  have hsz : ∀ w, (Go.sizeOf 36).run Try.prog w = .ok 2 w := fun w => by
    obtain ⟨i0, hi0, hzz⟩ := Option.map_eq_some_iff.1 info36
    simp only [Prod.mk.injEq] at hzz
    simp [sizeOf, typeInfo, hi0, hzz.2.1]
  have hov : ∀ lb cb, (callFunc 26 #[.slice (some ⟨vb, 0, none⟩) 1 vc, .slice (some ⟨g, (i + 1) * 2, none⟩) lb cb]).run Try.prog w = .ok (.value (.bool false)) w := fun lb cb => by
    rw [run_callFunc_extern Try.func26 (by kernel_rfl) (by kernel_rfl) (by kernel_rfl) (e := Extern.SlicesOverlaps.overlaps #[22, 22] #[4]) (by kernel_rfl),
      Lib.run_overlaps_apart w 22 4 36 Try.underlying22 2 hsz ⟨vb, 0, none⟩ ⟨g, (i + 1) * 2, none⟩ 1 vc lb cb hne 36 36 cv.size (c * 2) (by simp [World.shape?, hv]) (by simp [World.shape?, h6, h7]) (by omega) (blk_frozen hv 0) (blk_frozen hv cv.size)]
    rfl
  obtain ⟨W1, W2, hc1, hc2, ho, hB, hG⟩ := shift36 w w.drew cv base g n c i vb vc ok xs y (Kd.R_drew hr) (below_drew1 (Below.refl base w)) ⟨rfl, rfl, rfl, Nat.le_refl _, fun _ _ _ => rfl⟩ hv hcv hne hi hroom
  have HC1 := Aside0.mk hc1
  have HE := Aside0.mk (And.intro ho (And.intro hB hG))
  clear hr hv hcv hb h1 h4 h5 h6 h7 h8 hsz hc1 ho hB hG hne
  have hw1 : IntKind.i64.wrap ((i : Int) + 1) = (i : Int) + 1 := by rw [IntKind.wrap_i64]; omega
  have hb1 : (0 : Int) ≤ (i : Int) + 1 := by omega
  have hin : i ≤ n := by omega
  have htn : ((i : Int) + 1).toNat = i + 1 := by omega
  have hb2 : ¬ (c = i + 1) := by omega
  have hb3 : (i : Int) ≤ (n : Int) + 1 := by omega
  have hb4 : ¬ (c = i) := by omega
  have hz2 : ¬ ((i : Int) = (n : Int)) := by omega
  go_enter Try.func17, Try.ntmps17
  go_wp2_with (simp only [hov])
  refine start_ (n := 9) (S := fun w' => True) (ds := []) #[false, false, false, false, false, false, false, false, false] (by kernel_rfl) rfl rfl trivial (fun hHeld => ?_); refine with_tabW ins_tab15 ins_bits (fun HT_ HW_ => ?_)
  refine pz_ (i := 0) (N := some 69) (h := ?_)
  refine pz_ (i := 1) (N := some 70) (h := ?_)
  refine pz_ (i := 2) (N := some 71) (h := ?_)
  refine pz_ (i := 3) (N := some 72) (h := ?_)
  refine pz_ (i := 4) (N := some 73) (h := ?_)
  refine pz_ (i := 5) (N := some 74) (h := ?_)
  refine pz_ (i := 6) (N := some 75) (h := ?_)
  refine pz_ (i := 7) (N := some 76) (h := ?_)
  refine nz_ (i := 8) (N := some 77) (h := fun K hK => ?_)
  refine event_step (by rfl) (v := goInt ((n - i : Nat) : Int)) (w1 := W1) ?hR ?_
  (case hR => (have hcc := HC1.out 3 (c - (i + 1)) (c - i); rw [show n + 1 - (i + 1) = n - i by omega] at hcc; simp [execOp, resolve, invoke, builtin, Act.eval, hcc]))
  refine hK.out _ _ trivial (fun hHeld => ?_)
  clear hK K
  refine mz_ (some 77) (h := ?_)
  refine done_ (done_of HT_.out (by kernel_rfl)) ?_
  go_wp2
  go_ret
  exact ⟨_, rfl, HE.out⟩
set_option maxHeartbeats 1000000 in
set_option maxRecDepth 100000 in
theorem insert_grow (cv : Array Value) (g n c i base vb vc : Nat) (ok : Nat → Prop) (xs : List S36) (y : S36) (w : World) (hr : Kd.R k36 36 w base ok (.slice (some ⟨g, 0, none⟩) n c) xs)
    (hv : w.heap[vb]? = some (.cells cv 36 (0, 0))) (hcv : cv.toList.take 2 = fl [y]) (hb : base ≤ w.heap.size) (hl : n < 8796093022206) (hfresh : ∀ k, w.heap.size ≤ k → ok k) (hi : i < n) (hroom : c < n + 1) :
    Calls Try.prog 17 #[.slice (some ⟨g, 0, none⟩) n c, .int .i64 i, .slice (some ⟨vb, 0, none⟩) 1 vc] w fun e w' => ∃ v', e = .returned v' ∧ Kd.R k36 36 w' base ok v' (xs.take i ++ y :: xs.drop i) ∧ Below base w w' ∧ w.grownBy w' (some g) := by
  obtain ⟨h1, h2, h3, _⟩ := R_open hr
  unfold maxLen at h3
  obtain ⟨N, G, W1, W2, hGn, hGm, hap0, hc2, W3, hc3, ho, hB, hG⟩ := grow36 w cv base g n c i vb vc ok xs y hr hv hcv hi hroom hl hfresh
  have hap : ∀ ty, (Builtin.append_ #[22, 3] ty #[.slice (some ⟨g, 0, none⟩) i c, .int .i64 ((n : Int) + 1 - (i : Int))]).run Try.prog w = .ok (.slice (some ⟨N, 0, none⟩) (n + 1) G) W1 := fun ty => by
    have h := hap0 ty
    rwa [show ((n + 1 - i : Nat) : Int) = (n : Int) + 1 - (i : Int) by omega] at h
  have HC3 := Aside0.mk hc3
  have HA := Aside0.mk hap
  have HE := Aside0.mk (And.intro ho (And.intro hB hG))
  clear hr hv hcv hb h1 hap0 hc3 ho hB hG hfresh hap
  have hz3 : (c : Int) < (n : Int) + 1 := by omega
  have hw1 : IntKind.i64.wrap ((i : Int) + 1) = (i : Int) + 1 := by rw [IntKind.wrap_i64]; omega
  have hb1 : (0 : Int) ≤ (i : Int) + 1 := by omega
  have hin : i ≤ n := by omega
  have hic : i ≤ c := by omega
  have htn : ((i : Int) + 1).toNat = i + 1 := by omega
  have hb2 : ¬ (G = i + 1) := by omega
  have hb3 : (i : Int) ≤ (n : Int) + 1 := by omega
  have hb4 : ¬ (c = i) := by omega
  have hb5 : ¬ (G = i) := by omega
  have hz2 : ¬ ((i : Int) = (n : Int)) := by omega
  go_enter Try.func17, Try.ntmps17
  go_wp2_with (at_builtin; refine Lib.wpList_append_run _ rfl _ _ _ _ rfl _ _ rfl rfl _ _ (HA.out _) ?_)
  refine start_ (n := 9) (S := fun w' => True) (ds := []) #[false, false, false, false, false, false, false, false, false] (by kernel_rfl) rfl rfl trivial (fun hHeld => ?_); refine with_tabW ins_tab11 ins_bits (fun HT_ HW_ => ?_)
  refine pz_ (i := 0) (N := some 46) (h := ?_)
  refine pz_ (i := 1) (N := some 47) (h := ?_)
  refine pz_ (i := 2) (N := some 48) (h := ?_)
  refine pz_ (i := 3) (N := some 49) (h := ?_)
  refine pz_ (i := 4) (N := some 50) (h := ?_)
  refine pz_ (i := 5) (N := some 51) (h := ?_)
  refine pz_ (i := 6) (N := some 52) (h := ?_)
  refine pz_ (i := 7) (N := some 53) (h := ?_)
  refine nz_ (i := 8) (N := some 54) (h := fun K hK => ?_)
  refine event_step (by rfl) (v := goInt ((n - i : Nat) : Int)) (w1 := W3) ?hR ?_
  (case hR => (have hcc := HC3.out 3 (G - (i + 1)) (c - i); rw [show n + 1 - (i + 1) = n - i by omega] at hcc; simp [execOp, resolve, invoke, builtin, Act.eval, hcc]))
  refine hK.out _ _ trivial (fun hHeld => ?_)
  clear hK K
  refine mz_ (some 54) (h := ?_)
  refine done_ (done_of HT_.out (by kernel_rfl)) ?_
  go_wp2
  go_ret
  exact ⟨_, rfl, HE.out⟩
theorem R_shape {w : World} {base : Nat} {ok : Nat → Prop} {v : Value} {xs : List S36} (h : Kd.R k36 36 w base ok v xs) : (v = .slice none 0 0 ∧ xs = []) ∨ ∃ g c, v = .slice (some ⟨g, 0, none⟩) xs.length c ∧ xs.length ≤ c ∧ c ≤ 9223372036854775807 := by
  obtain ⟨h0, inner, ho, hr⟩ := h
  rcases ho.2 with ⟨rfl, hn⟩ | ⟨g, cap, cur, rfl, hb, hg, hn, hm, hs, ht⟩
  · exact .inl ⟨rfl, List.eq_nil_of_length_eq_zero hn⟩
  · exact .inr ⟨g, cap, rfl, hn, by unfold maxLen at hm; omega⟩
theorem insert_any (v : Value) (cv : Array Value) (i base vb vc : Nat) (ok : Nat → Prop) (xs : List S36) (y : S36) (w : World) (hr : Kd.R k36 36 w base ok v xs)
    (hv : w.heap[vb]? = some (.cells cv 36 (0, 0))) (hcv : cv.toList.take 2 = fl [y]) (hne : some vb ≠ v.ownBlock) (hb : base ≤ w.heap.size) (hl : xs.length < 8796093022206) (hfresh : ∀ k, w.heap.size ≤ k → ok k) (hi : i ≤ xs.length) :
    Calls Try.prog 17 #[v, .int .i64 i, .slice (some ⟨vb, 0, none⟩) 1 vc] w fun e w' => ∃ v', e = .returned v' ∧ Kd.R k36 36 w' base ok v' (xs.take i ++ y :: xs.drop i) ∧ Below base w w' ∧ w.grownBy w' v.ownBlock := by
  rcases R_shape hr with ⟨rfl, rfl⟩ | ⟨g, c, rfl, hn, hc⟩
  · obtain rfl : i = 0 := by simpa using hi
    exact insert_nil cv base vb vc ok y w hv hcv hb hfresh
  · have hg : (Value.slice (some ⟨g, 0, none⟩) xs.length c).ownBlock = some g := by simp [Value.ownBlock]
    rw [hg] at hne ⊢
    rcases Nat.lt_or_ge i xs.length with hi' | hi'
    · rcases Nat.lt_or_ge c (xs.length + 1) with hc' | hc'
      · exact insert_grow cv g xs.length c i base vb vc ok xs y w hr hv hcv hb hl hfresh hi' hc'
      · exact insert_room cv g xs.length c i base vb vc ok xs y w hr hv hcv (fun e => hne (by rw [e])) hb hl hi' hc'
    · obtain rfl : i = xs.length := by omega
      have h := insert_end cv g xs.length c base vb vc ok xs y w hr hv hcv hb hl hfresh
      rw [List.take_length, List.drop_length]
      exact h
theorem delete_any (v : Value) (k base : Nat) (ok : Nat → Prop) (xs : List S36) (w : World) (hr : Kd.R k36 36 w base ok v xs) (hk : k < xs.length) (hb : base ≤ w.heap.size) :
    Calls Try.prog 16 #[v, .int .i64 k, .int .i64 ((k : Int) + 1)] w fun e w' => ∃ v', e = .returned v' ∧ Kd.R k36 36 w' base ok v' (xs.eraseIdx k) ∧ Below base w w' ∧ w.grownBy w' v.ownBlock := by
  rcases R_shape hr with ⟨rfl, rfl⟩ | ⟨g, c, rfl, hn, hc⟩
  · simp at hk
  · have hg : (Value.slice (some ⟨g, 0, none⟩) xs.length c).ownBlock = some g := by simp [Value.ownBlock]
    rw [hg]
    exact (delete_calls g xs.length c k base ok xs w hr hk hn hc hb).mono fun e w' h => ⟨_, h.1, h.2⟩

/-! ### The three in the form of what is printed -/
def api_Cell_13.f (l0 : List (S36)) : Option (List (S36)) := if l0.length < 8796093022208 then some l0 else none
theorem api_Cell_13.calls (A0 : Option Addr) (c0 : Nat) (l0 : List (S36)) (r : List (S36)) (w : World) (hr0 : Kd.C k36 w A0 l0.length l0) (hc0 : l0.length ≤ c0) (h : api_Cell_13.f l0 = some r) :
    Calls Try.prog 13 #[.slice A0 l0.length c0] w fun e w' => ∃ v0_ : Value, e = .returned v0_ ∧ Kd.R k36 36 w' w.heap.size (fun _ => True) v0_ r ∧ Below w.heap.size w w' := by
  unfold api_Cell_13.f at h
  split at h
  · injection h with h
    subst h
    exact clone_calls A0 c0 l0 w hr0 hc0 (by assumption)
  · cases h
def api_Cell_16.f (l0 : List (S36)) (a1 a2 : Int) : Option (List (S36)) := if 0 ≤ a1 then if a1 < (l0.length : Int) then if a2 = a1 + 1 then some (l0.eraseIdx a1.toNat) else none else none else none
theorem api_Cell_16.calls (A0 : Option Addr) (c0 : Nat) (base : Nat) (ok : Nat → Prop) (l0 : List (S36)) (a1 a2 : Int) (r : List (S36)) (w : World) (hr0 : Kd.R k36 36 w base ok (.slice A0 l0.length c0) l0) (hb : base ≤ w.heap.size) (h : api_Cell_16.f l0 a1 a2 = some r) :
    Calls Try.prog 16 #[.slice A0 l0.length c0, .int .i64 a1, .int .i64 a2] w fun e w' => ∃ v0_ : Value, e = .returned v0_ ∧ Kd.R k36 36 w' base (fun _ => True) v0_ r ∧ Below base w w' := by
  unfold api_Cell_16.f at h
  split at h
  · split at h
    · split at h
      · injection h with h
        subst h
        rename_i h1 h2 h3
        subst h3
        obtain ⟨k, rfl⟩ := Int.eq_ofNat_of_zero_le h1
        exact (delete_any _ k base (fun _ => True) l0 w (Kd.R_mono hr0 (fun _ _ => trivial)) (by omega) hb).mono fun e w' hh => by
          obtain ⟨v', h4, h5, h6, _⟩ := hh
          exact ⟨v', h4, h5, h6⟩
      · cases h
    · cases h
  · cases h
def api_Cell_17.f (l0 : List (S36)) (a1 : Int) (l2 : List (S36)) : Option (List (S36)) := if 0 ≤ a1 then if a1 ≤ (l0.length : Int) then if l0.length < 8796093022206 then match l2 with
  | [y] => some (l0.take a1.toNat ++ y :: l0.drop a1.toNat)
  | _ => none
  else none else none else none
theorem api_Cell_17.calls (A0 : Option Addr) (c0 : Nat) (base : Nat) (ok : Nat → Prop) (l0 : List (S36)) (a1 : Int) (A2 : Option Addr) (c2 base2 : Nat) (ok2 : Nat → Prop) (l2 : List (S36)) (r : List (S36)) (w : World) (hr0 : Kd.R k36 36 w base ok (.slice A0 l0.length c0) l0) (hr2 : Kd.R k36 36 w base2 ok2 (.slice A2 l2.length c2) l2)
    (hne : ∀ k, (Value.slice A0 l0.length c0).ownBlock = some k → some k ≠ (Value.slice A2 l2.length c2).ownBlock) (hb : base ≤ w.heap.size) (h : api_Cell_17.f l0 a1 l2 = some r) :
    Calls Try.prog 17 #[.slice A0 l0.length c0, .int .i64 a1, .slice A2 l2.length c2] w fun e w' => ∃ v0_ : Value, e = .returned v0_ ∧ Kd.R k36 36 w' base (fun _ => True) v0_ r ∧ Below base w w' := by
  unfold api_Cell_17.f at h
  split at h
  · split at h
    · split at h
      · split at h
        · injection h with h
          subst h
          rename_i h1 h2 h3 _ y
          obtain ⟨k, rfl⟩ := Int.eq_ofNat_of_zero_le h1
          rcases R_shape hr2 with ⟨_, h4⟩ | ⟨g, c, he, _, _⟩
          · cases h4
          · injection he with e1 e2 e3
            subst e1; subst e3
            obtain ⟨_, _, _, _, _, cv, hv, _, hcv⟩ := R_open hr2
            exact (insert_any _ cv k base g c2 (fun _ => True) l0 y w (Kd.R_mono hr0 (fun _ _ => trivial)) hv hcv (fun e => hne g e.symm (by simp [Value.ownBlock])) hb h3 (fun _ _ => trivial) (by omega)).mono fun e w' hh => by
              obtain ⟨v', h4, h5, h6, _⟩ := hh
              exact ⟨v', h4, h5, h6⟩
        · cases h
      · cases h
    · cases h
  · cases h
end Go.Proofs.Ytpogkinegkfokaa.MInterpretStores
