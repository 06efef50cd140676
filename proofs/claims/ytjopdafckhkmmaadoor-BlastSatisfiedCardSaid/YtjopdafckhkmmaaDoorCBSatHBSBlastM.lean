/- blast.Blast, by hand. -/
import Derived.Test.YtjopdafckhkmmaaDoorCBSatHBSBlastA
set_option linter.unusedVariables false
set_option linter.unusedSimpArgs false
namespace Go.Proofs.YtjopdafckhkmmaaDoor.MBS
open Go.Proofs.YtjopdafckhkmmaaDoor.Zed Go.RowKit Go.Proofs.YtjopdafckhkmmaaDoorW.PrintWords Go.Proofs.YtjopdafckhkmmaaDoorW.PrintLast Go.Proofs.YtjopdafckhkmmaaDoorW.PrintMore
open Go.Maps (has IsMap Keyed)
attribute [local go_sem] Oper.semAt_some
def blast14_T : Bool × List (List Nat × List Nat) := (true, [([], []), ([], []), ([1], [1]), ([2], [2]), ([3], [3]), ([4], [4]), ([], []), ([6], [6]), ([5, 7], [5, 7]), ([0, 0, 1, 2, 3, 4, 5, 6, 7, 8], [0]), ([9, 0, 1, 2, 3, 4, 5, 6, 7, 8], [9]), ([10, 0, 1, 2, 3, 4, 5, 6, 7, 8], [10]), ([11, 8, 8, 0, 1, 2, 3, 4, 5, 6, 7, 8], [8, 11])])
def blast14_B : List Nat := [0, 0, 2, 6, 14, 30, 0, 64, 254, 511, 1023, 2047, 4095]
theorem blast14_tab : rtab .any (opsOf Tryd.f8 14) = blast14_T := by kernel_rfl
theorem blast14_bits : waitsOk blast14_T.2 blast14_B = true := by kernel_rfl
def blast15_T : Bool × List (List Nat × List Nat) := (true, [([], []), ([0], [0]), ([1], [1]), ([2], [2]), ([], []), ([], []), ([5], [5]), ([6], [6]), ([7], [7]), ([8], [8]), ([9], [9]), ([10], [10]), ([3, 4, 11, 0, 1, 2, 3, 4, 5, 6, 7, 8, 9, 10, 11], [3, 4, 11])])
def blast15_B : List Nat := [0, 1, 3, 7, 0, 0, 32, 96, 224, 480, 992, 2016, 4095]
theorem blast15_tab : rtab .any (opsOf Tryd.f8 15) = blast15_T := by kernel_rfl
theorem blast15_bits : waitsOk blast15_T.2 blast15_B = true := by kernel_rfl
theorem nodup_sub {α : Type} [DecidableEq α] : ∀ (l m : List α), l.Nodup → (∀ a ∈ l, a ∈ m) → l.length ≤ m.length
  | [], _, _, _ => Nat.zero_le _
  | a :: l, m, hn, hs => by
    have h1 := hs a (by simp)
    have hn' := List.nodup_cons.1 hn
    have h2 := nodup_sub l (m.erase a) hn'.2 (fun b hb => (List.mem_erase_of_ne (fun e => hn'.1 (by rw [← e]; exact hb))).2 (hs b (by simp [hb])))
    rw [List.length_erase_of_mem h1] at h2
    have h3 := List.length_pos_of_mem h1
    simp only [List.length_cons]
    omega
theorem VS.few {l : List Tm} {vs : List Bg} (h : VS l vs) : vs.length ≤ l.length := by
  have h1 : (vs.map (·.f0)).Nodup := by
    rw [List.nodup_iff_pairwise_ne, List.pairwise_map]
    refine h.sorted.imp ?_
    intro a b hab e
    have : cfB a b = 0 := by
      show Lib.compareBytes a.f0.data.toList b.f0.data.toList = 0
      rw [e]
      exact cb_self _
    omega
  have h2 := nodup_sub (vs.map (·.f0)) (l.map (·.f3)) h1 (fun s hs => by
    obtain ⟨b, hb, rfl⟩ := List.mem_map.1 hs
    obtain ⟨x, hx, _, h3, _⟩ := (h.mem b.f0 b.f1).1 ⟨b, hb, rfl, rfl⟩
    exact List.mem_map.2 ⟨x, hx, h3⟩)
  simpa using h2
/-- A variable that may be an input. -/
def VOk (v : Bg) : Prop := v.f0.size ≤ maxLen ∧ 0 ≤ v.f1 ∧ v.f1 ≤ 64
theorem insOf_len : ∀ (vs : List Bg), (∀ v ∈ vs, VOk v) → (insOf vs).length ≤ 64 * vs.length
  | [], _ => by simp [insOf]
  | v :: vs, h => by
    have h1 := insOf_len vs (fun u hu => h u (by simp [hu]))
    obtain ⟨_, h2, h3⟩ := h v (by simp)
    simp only [insOf, List.flatMap_cons, List.length_append, List.length_map, List.length_range, List.length_cons] at h1 ⊢
    omega
set_option maxRecDepth 100000 in
theorem blast_results (tmps : Array Value) (W : World) (b : Nat) (v0 v1 v2 v3 : Value) (h2 : tmps.getD 2 undef = .pointer (some ⟨b, 0, none⟩)) (h3 : tmps.getD 3 undef = v3) (hb : W.heap[b]? = some (.cells #[v0, v1, v2] 32 (0, 0))) :
    (results Tryd.f8 tmps).run Tryd.prog W = .ok (.tuple #[.agg #[v0, v1, v2], v3]) W := by
  have c0 : W.cell? ⟨b, 0, none⟩ = some v0 := (blk_cell hb 0).trans rfl
  have c1 : W.cell? ⟨b, 1, none⟩ = some v1 := (blk_cell hb 1).trans rfl
  have c2 : W.cell? ⟨b, 2, none⟩ = some v2 := (blk_cell hb 2).trans rfl
  have e2 : tmps[2]?.getD undef = .pointer (some ⟨b, 0, none⟩) := by simpa using h2
  have e3 : tmps[3]?.getD undef = v3 := by simpa using h3
  have hu := Tryd.underlying32
  simp [results, Tryd.results8, go_sem, e2, e3, c0, c1, c2, hu]
theorem R_fin {α : Type} {d : Kd α} {e base : Nat} {ok : Nat → Prop} {W : World} {v : Value} {xs : List α} {g b : Nat} {cg cc : Array Value} (h : d.R e W base ok v xs) (hg : W.heap[g]? = some (.cells cg 70 (0, 0))) (hc : W.heap[b]? = some (.cells cc 32 (0, 0))) (ht : ∀ q ∈ e :: d.E, q ≠ 70 ∧ q ≠ 32) (u0 u1 u2 u3 : Value) :
    d.R e ((((W.setCell ⟨g, 2, none⟩ u0).setCell ⟨b, 0, none⟩ u1).setCell ⟨b, 1, none⟩ u2).setCell ⟨b, 2, none⟩ u3) base (fun _ => True) v xs :=
  Kd.R_mono (Kd.R_move (Kd.R_bound h) (fun k hk => by
    obtain ⟨_, _, _, q, hq, cells, hk⟩ := hk
    have h1 : k ≠ g := fun e => by subst e; rw [hg] at hk; cases hk; exact (ht _ hq).1 rfl
    have h2 : k ≠ b := fun e => by subst e; rw [hc] at hk; cases hk; exact (ht _ hq).2 rfl
    rw [Below.heap_setCell _ ⟨b, 2, none⟩ _ k h2, Below.heap_setCell _ ⟨b, 1, none⟩ _ k h2, Below.heap_setCell _ ⟨b, 0, none⟩ _ k h2, Below.heap_setCell _ ⟨g, 2, none⟩ _ k h1])) (fun _ _ => trivial)
theorem R_mkeep {α : Type} {d : Kd α} {e b0 base bs : Nat} {ok : Nat → Prop} {W W' : World} {v : Value} {xs : List α} (h : d.R e W b0 ok v xs) (k : MKeep base bs W W') (hbs : ∀ o, W.heap[bs]? = some o → o.isCells = false) (ht : ∀ q ∈ e :: d.E, q ≠ 49 ∧ q ≠ 70) : d.R e W' b0 (fun _ => True) v xs :=
  Kd.R_mono (Kd.R_move (Kd.R_bound h) (fun i hi => by
    obtain ⟨_, _, _, q, hq, cells, hc⟩ := hi
    rw [hc]
    exact k.typed hbs (ht q hq) i cells hc)) (fun _ _ => trivial)
/-- What Blast answers behind Vars and Pure. -/
def blastPost (x : Tm) (w : World) (e : Ending) (w' : World) : Prop :=
  Below w.heap.size w w' ∧ ∃ vs, VS (nd x) vs ∧
    ((512 < (insOf vs).length ∨ 100000 < totF (nd x)) ∧ e = .returned (.tuple #[.agg #[.slice none 0 0, .slice none 0 0, .slice none 0 0], .int .i64 4]) ∨
     ¬ (512 < (insOf vs).length ∨ 100000 < totF (nd x)) ∧ ∃ vI vG vO, e = .returned (.tuple #[.agg #[vI, vG, vO], .int .i64 0]) ∧
       kC.R 44 w' w.heap.size (fun _ => True) vI (insOf vs) ∧ k49.R 49 w' w.heap.size (fun _ => True) vG (pTerm (insOf vs).length (atIns (insOf vs)) [] x).1 ∧
       kI.R 3 w' w.heap.size (fun _ => True) vO (pTerm (insOf vs).length (atIns (insOf vs)) [] x).2)
set_option maxRecDepth 100000 in
set_option maxHeartbeats 4000000 in
theorem Blast_calls (k : Nat) (x : Tm) (cs : List Value) (d : Int) (w : World) (hK : kT.K w x cs) (hT : Tab w) (hn : (nd x).length ≤ 10000)
    (hd : term_Depth.f k x.f0 x.f1 x.f2 x.f3 x.f4 x.f5 = some d) (hnd : ∀ y ∈ nd x, NOk k y) (hchk : chkR k x d = 0) (hpure : pureB k x d = true) (hnb : ∀ y ∈ nd x, NB y) (hcn : ∀ y ∈ nd x, CN y) (hcst : cst (nd x) ≤ (totF (nd x)).toNat) :
    Calls Tryd.prog 8 #[.agg cs.toArray] w (blastPost x w) := by
  have HVARS : ∀ W : World, Below w.heap.size w W → Calls Tryd.prog 9 #[.agg cs.toArray] W fun e w' => Below W.heap.size W w' ∧ ∃ (v : Value) (vs : List Bg), e = .returned (.tuple #[v, .int .i64 0]) ∧ VS (nd x) vs ∧ Kd.R k40 40 w' W.heap.size (fun _ => True) v vs := fun W hW =>
    (Vars_calls k x cs d W (kT.K_below hW hK) (hT.below hW) q29_ hd hnd).mono fun e w' ⟨h1, h2⟩ => ⟨h1, by
      rcases h2 with ⟨h2, _⟩ | ⟨_, v, vs, h3, h4, h5⟩
      · exact absurd hchk h2
      · exact ⟨v, vs, h3, h4, h5⟩⟩
  have HPURE : ∀ W : World, Below w.heap.size w W → Calls Tryd.prog 10 #[.agg cs.toArray] W fun e w' => e = .returned (.bool true) ∧ Below W.heap.size W w' := fun W hW => by
    have := Pure_calls k x cs d W (kT.K_below hW hK) (hT.below hW) q29_ hd hnd
    rwa [hpure] at this
  have HK := Aside0.mk hK
  obtain ⟨A5, c5, rfl, l5, g5⟩ := k25_open hK
  have hu25 := Tryd.underlying25
  have hmm := @run_makeMap Tryd.prog
  replace HVARS := Aside0.mk HVARS
  replace HPURE := Aside0.mk HPURE
  have HNB := Aside0.mk hnb
  have HCN := Aside0.mk hcn
  have HCST := Aside0.mk hcst
  have HLEN := Aside0.mk hn
  clear g5 hK hT hd hnd hchk hpure hnb hcn hcst hn l5
  obtain ⟨bt, hbt⟩ : ∃ bt, bt = Obj.cells #[.int .u8 x.f0, .int .i64 x.f1, .int .u64 x.f2, .string x.f3, .int .i64 x.f4, .slice A5 x.f5.length c5] 25 (0, 0) := ⟨_, rfl⟩
  obtain ⟨Wb, hWb⟩ : ∃ Wb, Wb = (w.alloc bt).alloc (.cells #[.slice none 0 0, .slice none 0 0, .slice none 0 0] 32) := ⟨_, rfl⟩
  have HBb := Aside0.mk (show Below w.heap.size w Wb by rw [hWb]; exact below_alloc (below_alloc (Below.refl _ _) _) _)
  have hzb : Wb.heap.size = w.heap.size + 2 := by rw [hWb]; simp
  have HX0 := Aside0.mk (show Wb.heap[w.heap.size]? = some bt by rw [hWb]; exact blk_alloc (blk_new w bt) _)
  have HC0 := Aside0.mk (show Wb.heap[w.heap.size + 1]? = some (.cells #[.slice none 0 0, .slice none 0 0, .slice none 0 0] 32 (0, 0)) by
    rw [hWb]
    have := blk_new (w.alloc bt) (.cells #[.slice none 0 0, .slice none 0 0, .slice none 0 0] 32)
    simpa using this)
  have HZB := Aside0.mk hzb
  rw [hbt] at HX0 hWb
  rw [hWb] at HBb HX0 HC0
  clear hbt hzb
  go_enter Tryd.func8, Tryd.ntmps8
  go_wp2_with (first | (go_at_call 9; refine (HVARS.out _ HBb.out).mono ?_; rintro e w2 ⟨hb2, vv, vs, rfl, hvs, hrv⟩; obtain ⟨Av, cv, rfl⟩ := Kd.R_slice hrv; have bx2 := blk_below HX0.out hb2; have q0 := (blk_cell bx2 0).trans (show _ = some (Value.int .u8 x.f0) from rfl); have q1 := (blk_cell bx2 1).trans (show _ = some (Value.int .i64 x.f1) from rfl); have q2 := (blk_cell bx2 2).trans (show _ = some (Value.int .u64 x.f2) from rfl); have q3 := (blk_cell bx2 3).trans (show _ = some (Value.string x.f3) from rfl); have q4 := (blk_cell bx2 4).trans (show _ = some (Value.int .i64 x.f4) from rfl); have q5 := (blk_cell bx2 5).trans (show _ = some (Value.slice A5 x.f5.length c5) from rfl); have HB2 := Aside0.mk (below_step HBb.out hb2); have HX2 := Aside0.mk bx2; have HC2 := Aside0.mk (blk_below HC0.out hb2); have HVS := Aside0.mk hvs; have HRV := Aside0.mk (Kd.R_lower hrv (below_size HBb.out)); clear hb2 bx2 hvs hrv) | (go_at_call 10; refine (HPURE.out _ HB2.out).mono ?_; rintro e w3 ⟨rfl, hb3⟩; have HB3 := Aside0.mk (below_step HB2.out hb3); have HX3 := Aside0.mk (blk_below HX2.out hb3); have HC3 := Aside0.mk (blk_below HC2.out hb3); have HRV3 := Aside0.mk (Kd.R_below HRV.out hb3); clear hb3 q0 q1 q2 q3 q4 q5))
  obtain ⟨n, hnn⟩ : ∃ n, n = w3.heap.size := ⟨_, rfl⟩
  obtain ⟨Wm, hWm⟩ : ∃ Wm, Wm = ((w3.alloc (.map #[] 0)).alloc (.map #[] 0)).alloc (.cells #[.slice none 0 0, .slice none 0 0, .slice none 0 0, .map (some n), .map (some (n + 1))] 70) := ⟨_, rfl⟩
  have HBI0 : BI n w3 Wm (n + 1 + 1) n (n + 1) [] := by
    have e1 : (w3.alloc (.map #[] 0)).heap.size = n + 1 := by rw [hnn]; simp
    have e2 : ((w3.alloc (.map #[] 0)).alloc (.map #[] 0)).heap.size = n + 1 + 1 := by rw [hnn]; simp
    have m1 := World.ownsMap_made (H := Unit) w3 Tryd.prog 49 (plainElem Tryd.prog 3)
    have m2 := World.ownsMap_made (H := Unit) (w3.alloc (.map #[] 0)) Tryd.prog 44 (plainElem Tryd.prog 3)
    rw [← hnn] at m1
    rw [e1] at m2
    refine ⟨⟨.slice none 0 0, ?_, Kd.R_nil _ _ _ _ _⟩, ?_, ⟨.map [], ?_, IM.nil⟩, ?_, by omega, by omega, by omega⟩
    · rw [hWm, ← e2]; exact blk_new _ _
    · rw [hWm]; exact (m1.alloc _).alloc _
    · rw [hWm]; exact m2.alloc _
    · rw [hWm, hnn]; exact below_alloc (below_alloc (below_alloc (Below.refl _ _) _) _) _
  rw [← hnn, ← hWm]
  have HN := Aside0.mk hnn
  have HVO := Aside0.mk (show ∀ v ∈ vs, VOk v from fun v hv => by
    obtain ⟨y, hy, h2, h3, h4⟩ := (HVS.out.mem v.f0 v.f1).1 ⟨v, hv, rfl, rfl⟩
    obtain ⟨a1, a2, ⟨_, a3, _⟩ | ⟨a3, _⟩⟩ := HNB.out y hy
    · exact ⟨by rw [← h3]; exact a3, by omega, by omega⟩
    · omega)
  have HVL := Aside0.mk HVS.out.few
  have hvb : vs.length ≤ 10000 := Nat.le_trans HVL.out HLEN.out
  obtain ⟨g, hg⟩ : ∃ g, g = n + 1 + 1 := ⟨_, rfl⟩
  obtain ⟨ba, hba⟩ : ∃ b, b = n + 1 := ⟨_, rfl⟩
  have HBI := Aside0.mk HBI0
  have HGB := Aside0.mk hg
  have HBA := Aside0.mk hba
  rw [← hg, ← hba] at HBI
  rw [← hg, ← hba]
  clear hnn hWm HBI0 hg hba
  go_loopw [30] (fun v30 wr => ∃ j : Nat, v30 = .int .i64 j ∧ j ≤ vs.length ∧ Aside0 (BI n w3 wr g n ba (insOf (vs.take j)))) (fun v30 _ => vs.length - (intOf v30).toNat)
  case atStart => exact ⟨0, rfl, Nat.zero_le _, by simpa [insOf] using HBI⟩
  case round =>
    obtain ⟨j, rfl, hj, HI⟩ := hrel
    by_cases hlt : j < vs.length
    · obtain ⟨ad, rfl, p0, p1, p2⟩ := at_T40 (Kd.R_reads' HRV3.out).2.2 (j : Int) q29_ q29_
      have hrd : rd_T40 vs (j : Int) = vs[j] := by simp [rd_T40, List.getD_eq_getElem?_getD, hlt]
      rw [hrd] at p0 p1 p2
      have hbw : Below w3.heap.size w3 wr := by have := HI.out.below; rwa [HN.out] at this
      replace p0 := (hbw.cell (World.block_lt_of_cell? w3 _ p0)).trans p0
      replace p1 := (hbw.cell (World.block_lt_of_cell? w3 _ p1)).trans p1
      replace p2 := (hbw.cell (World.block_lt_of_cell? w3 _ p2)).trans p2
      simp only [Int.toNat_natCast] at p0 p1 p2
      have HV := Aside0.mk (HVO.out vs[j] (List.getElem_mem hlt))
      have HSN := Aside0.mk (show insOf (vs.take (j + 1)) = insOf (vs.take j) ++ (List.range vs[j].f1.toNat).map fun (i : Nat) => .mk vs[j].f0 i by rw [List.take_succ_eq_append_getElem hlt, insOf_snoc])
      have HIL0 := Aside0.mk (show (insOf (vs.take j)).length ≤ 640000 by
        have h1 := insOf_len (vs.take j) (fun v hv => HVO.out v (List.mem_of_mem_take hv))
        rw [List.length_take] at h1
        have := HVL.out
        have := HLEN.out
        omega)
      obtain ⟨v, hv⟩ : ∃ v, v = vs[j] := ⟨_, rfl⟩
      rw [← hv] at p0 p1 p2 HV HSN
      obtain ⟨hv0, hv1, hv2⟩ := HV.out
      clear hrd hv hbw
      go_wp2
      obtain ⟨B8, h8⟩ : ∃ b, b = wr.heap.size := ⟨_, rfl⟩
      obtain ⟨wa, hwa⟩ : ∃ wa, wa = wr.alloc (.cells #[.string v.f0, .int .i64 v.f1, .int .u64 v.f2] 40) := ⟨_, rfl⟩
      have HIa := Aside0.mk (show BI n w3 wa g n ba (insOf (vs.take j)) by rw [hwa]; exact HI.out.alloc (by have := HI.out.below.size; have := HN.out; omega) _)
      have B8a := Aside0.mk (show wa.heap[B8]? = some (.cells #[.string v.f0, .int .i64 v.f1, .int .u64 v.f2] 40 (0, 0)) by rw [hwa, h8]; exact blk_new _ _)
      have H8n := Aside0.mk (show n ≤ B8 by have := HI.out.below.size; have := HN.out; omega)
      rw [← h8, ← hwa]
      clear h8 hwa p0 p1 p2
      go_loopw [36] (fun v36 wt => ∃ i : Nat, v36 = .int .i64 i ∧ (i : Int) ≤ v.f1 ∧ Aside0 (BI n w3 wt g n ba (insOf (vs.take j) ++ (List.range i).map fun (i : Nat) => .mk v.f0 i)) ∧ Aside0 (wt.heap[B8]? = some (.cells #[.string v.f0, .int .i64 v.f1, .int .u64 v.f2] 40 (0, 0)))) (fun v36 _ => v.f1.toNat - (intOf v36).toNat)
      case atStart => exact ⟨0, rfl, hv1, by simpa using HIa, B8a⟩
      case round =>
        obtain ⟨i, rfl, hi, HJ, HB8⟩ := hrel
        by_cases hli : (i : Int) < v.f1
        · obtain ⟨ins, hins⟩ : ∃ ins, ins = insOf (vs.take j) ++ (List.range i).map fun (i : Nat) => (.mk v.f0 i : Ci) := ⟨_, rfl⟩
          rw [← hins] at HJ
          have HIL := Aside0.mk (show ins.length + 1 ≤ 1000000 by
            have := HIL0.out
            rw [hins, List.length_append, List.length_map, List.length_range]
            omega)
          have HIN := Aside0.mk (show insOf (vs.take j) ++ ((List.range (i + 1)).map fun (i : Nat) => (.mk v.f0 i : Ci)) = ins ++ [.mk v.f0 i] by rw [hins, List.range_succ, List.map_append, List.append_assoc]; rfl)
          have HKEY := Aside0.mk (keyI v.f0 i hv0 (nat_wf q29_ q29_))
          have HIW := Aside0.mk (show (Lit.int .i64 (i : Int)).wf = true from nat_wf q29_ q29_)
          obtain ⟨⟨vI, hgt, hrt⟩, hmt, ⟨D, hat, him⟩, hbt, hb1, hb2, hb3⟩ := HJ.out
          have HRt := Aside0.mk hrt
          have HIM := Aside0.mk him
          have b0 := (blk_cell HB8.out 0).trans (show _ = some (Value.string v.f0) from rfl)
          have hB8l := blk_lt HB8.out
          clear hins
          go_wp2
          obtain ⟨X, hX⟩ : ∃ b, b = wr.heap.size := ⟨_, rfl⟩
          obtain ⟨wq, hwq⟩ : ∃ wq, wq = wr.alloc (.cells #[.string v.f0, .int .i64 i] 44) := ⟨_, rfl⟩
          have hbq : Below wr.heap.size wr wq := by rw [hwq]; exact below_alloc (Below.refl _ _) _
          have hbd : Below wr.heap.size wr wq.drew := below_drew hbq
          have BGd := Aside0.mk (blk_below hgt hbd)
          have BXd := Aside0.mk (show wq.drew.heap[X]? = some (.cells #[.string v.f0, .int .i64 i] 44 (0, 0)) by rw [hX, hwq]; exact blk_new wr _)
          have B8d := Aside0.mk (blk_below HB8.out hbd)
          have HRd := Aside0.mk (Kd.R_below HRt.out hbd)
          have HMd := Aside0.mk (show wq.drew.ownsMap Tryd.prog 49 (plainElem Tryd.prog 3) n 0 (.map [] : DataW Unit) by rw [hwq]; exact (hmt.alloc _).drew)
          have HAd := Aside0.mk (show wq.drew.ownsMap Tryd.prog 44 (plainElem Tryd.prog 3) ba ins.length D by rw [hwq]; exact (hat.alloc _).drew)
          have HBd := Aside0.mk (show Below n w3 wq.drew from hbt.trans (hbd.mono (by have := hbt.size; have := HN.out; omega)))
          have HXt := Aside0.mk hX
          have hgX : g ≠ X := fun e => by have := blk_lt hgt; omega
          have HNW := Aside0.mk (show n ≤ wq.drew.heap.size by have := HBd.out.size; have := HN.out; omega)
          rw [← hX, ← hwq]
          clear hX hwq hbq hbd hgt hrt hmt hat him hbt b0 hB8l
          refine start_ (n := 13) (S := fun w' => w'.cell? ⟨g, 0, none⟩ = some vI ∧ w'.cell? ⟨X, 0, none⟩ = some (.string v.f0) ∧ w'.cell? ⟨X, 1, none⟩ = some (.int .i64 i)) (ds := [12]) #[false, false, false, false, false, false, false, false, false, false, false, false, false] q28_ rfl rfl ⟨(blk_cell BGd.out 0).trans rfl, (blk_cell BXd.out 0).trans rfl, (blk_cell BXd.out 1).trans rfl⟩ (fun hHeld => ?_); refine with_tabW blast14_tab blast14_bits (fun HT_ HW_ => ?_)
          generalize wq.drew = wd at BGd BXd B8d HRd HMd HAd HBd HNW hHeld ⊢
          refine pz_ (i := 0) (N := some 43) (h := ?_)
          refine pz_ (i := 1) (N := some 44) (h := ?_)
          refine pz_ (i := 2) (N := some 45) (h := ?_)
          refine pz_ (i := 3) (N := some 46) (h := ?_)
          refine pz_ (i := 4) (N := some 47) (h := ?_)
          refine tz_ (i := 5) (N := some 48) (h := ?_)
          refine tz_ (i := 6) (N := some 49) (h := ?_)
          refine nz_ (i := 7) (N := some 50) (h := fun K hK => ?_)
          refine vz_ (h := ?_)
          refine hK.out _ _ ⟨(blk_cell (blk_alloc BGd.out _) 0).trans rfl, (blk_cell (blk_alloc BXd.out _) 0).trans rfl, (blk_cell (blk_alloc BXd.out _) 1).trans rfl⟩ (fun hHeld => ?_)
          clear hK K
          refine mz_ (some 50) (h := ?_)
          refine nz_ (i := 8) (N := some 51) (h := fun K hK => ?_)
          refine Kd.R_append_step kC (w0 := wd) n (by rfl) (.tmp 48) (.tmp 50) 28 44 (.agg #[.string ⟨#[]⟩, .int .i64 0]) 24 rfl Tryd.underlying28 infoI rfl q33_ q33_ vI ins (.mk v.f0 i) [.string v.f0, .int .i64 i] (fun _ => True) (fun _ => False) rfl rfl ?aP (fun _ hk => hk.elim) ?aF ?aO ?aB ?aS ?aL ?_
          (case aP => exact k44_mkM _ _ _ _)
          (case aF => exact (fun _ _ => trivial))
          (case aO => exact HRd.out)
          (case aB => exact Below.refl _ _)
          (case aS => exact HNW.out)
          (case aL => have := HIL.out; omega)
          intro v9 w9 ho hb hg hat
          obtain ⟨A9, c9, ev9⟩ := Kd.R_slice ho
          subst ev9
          have hneG : some g ≠ vI.ownBlock := Kd.R_ne HRd.out BGd.out q33_
          have hne8 : some B8 ≠ vI.ownBlock := Kd.R_ne HRd.out B8d.out q33_
          have BG9 := Aside0.mk (blk_grown BGd.out hg hneG)
          have B89 := Aside0.mk (blk_grown B8d.out hg hne8)
          have hneX : some X ≠ vI.ownBlock := fun he => by have h1 := Kd.R_lt HRt.out _ he.symm; have := HXt.out; omega
          have BX9 := Aside0.mk (blk_grown BXd.out hg hneX)
          have HM9 := Aside0.mk (HMd.out.kept hg (own_notG HRd.out HMd.out))
          have HA9 := Aside0.mk (HAd.out.kept hg (own_notG HRd.out HAd.out))
          have HB9 := Aside0.mk (HBd.out.grown hg HNW.out (fun k e => Kd.R_base HRd.out k e))
          have HNW9 := Aside0.mk (Nat.le_trans HNW.out hg.size)
          have HR9 := Aside0.mk ho
          clear ho hb hg hat hneG hne8 hneX
          refine hK.out _ _ ⟨(blk_cell BG9.out 0).trans rfl, (blk_cell BX9.out 0).trans rfl, (blk_cell BX9.out 1).trans rfl⟩ (fun hHeld => ?_)
          clear hK K
          refine mz_ (some 51) (h := ?_)
          refine pz_ (i := 9) (N := some 52) (h := ?_)
          refine pz_ (i := 10) (N := some 53) (h := ?_)
          refine pz_ (i := 11) (N := some 54) (h := ?_)
          refine last_ (i := 12) (N := none) #[true, true, true, true, true, true, true, true, true, true, true, true, true] rfl rfl (one_of HT_.out q28_) q33_ (fun K hK => ?_)
          have hc9 : w9.cell? ⟨g, 0, none⟩ = some vI := (blk_cell BG9.out 0).trans rfl
          have hf9 := blk_frozen BG9.out 0
          have hl9 := blk_lt BG9.out
          refine skip_ (w1 := ?_) (by rfl) rfl ?_ ?_
          rotate_left
          · go_simp
            rfl
          refine hK.out _ _ ?_
          clear hK K
          refine done_ (done_of HT_.out q28_) ?_
          obtain ⟨wr3, hwr⟩ : ∃ w, w = w9.setCell ⟨g, 0, none⟩ (.slice A9 (ins.length + 1) c9) := ⟨_, rfl⟩
          have hgr := grownBy_setCellAt w9 g 0 (.slice A9 (ins.length + 1) c9)
          rw [← hwr] at hgr ⊢
          have BGr : wr3.heap[g]? = some (.cells #[.slice A9 (ins.length + 1) c9, .slice none 0 0, .slice none 0 0, .map (some n), .map (some ba)] 70 (0, 0)) := by rw [hwr]; have z := blk_set BG9.out 0 (.slice A9 (ins.length + 1) c9); simpa using z
          have BXr : wr3.heap[X]? = some (.cells #[.string v.f0, .int .i64 i] 44 (0, 0)) := by rw [hwr]; exact blk_far BX9.out (show X ≠ g from hgX.symm) _
          have B8r : wr3.heap[B8]? = some (.cells #[.string v.f0, .int .i64 v.f1, .int .u64 v.f2] 40 (0, 0)) := by rw [hwr]; exact blk_far B89.out (blk_ne B89.out BG9.out q33_) _
          have HRr : kC.R 44 wr3 n (fun _ => True) (.slice A9 (ins.length + 1) c9) (ins ++ [.mk v.f0 i]) := by rw [hwr]; have z := Kd.R_set HR9.out BG9.out q33_ 0 (.slice A9 (ins.length + 1) c9); simpa using z
          have HMr : wr3.ownsMap Tryd.prog 49 (plainElem Tryd.prog 3) n 0 (.map [] : DataW Unit) := HM9.out.kept hgr (fun e => by have := Option.some.inj e; have := HGB.out; omega)
          have HAr : wr3.ownsMap Tryd.prog 44 (plainElem Tryd.prog 3) ba ins.length D := HA9.out.kept hgr (fun e => by have := Option.some.inj e; have := HGB.out; have := HBA.out; omega)
          have HBr : Below n w3 wr3 := HB9.out.grown hgr HNW9.out (fun k e => by have := Option.some.inj e; omega)
          have BGu := Aside0.mk (blk_drew BGr)
          have BXu := Aside0.mk (blk_drew BXr)
          have B8u := Aside0.mk (blk_drew B8r)
          have HRu := Aside0.mk (Kd.R_drew HRr)
          have HMu := Aside0.mk HMr.drew
          have HAu := Aside0.mk HAr.drew
          have HBu := Aside0.mk (below_drew1 HBr)
          have hl : wrap64 (2 * ((ins.length : Int) + 1)) = ((2 * (ins.length + 1 : Nat) : Nat) : Int) := by rw [w64_in _ (by have := HIL.out; omega)]; omega
          obtain ⟨V, hV⟩ : ∃ V : Int, V = ((2 * (ins.length + 1 : Nat) : Nat) : Int) := ⟨_, rfl⟩
          rw [← hV] at hl
          have HVW := Aside0.mk (show (Lit.int .i64 V).wf = true by rw [← hl]; exact wrap64_wf _)
          have HVV := Aside0.mk hV
          clear hwr hgr BGr BXr B8r HRr HMr HAr HBr hV
          go_wp2
          refine start_ (n := 13) (S := fun w' => w'.cell? ⟨g, 4, none⟩ = some (.map (some ba)) ∧ w'.cell? ⟨X, 0, none⟩ = some (.string v.f0) ∧ w'.cell? ⟨X, 1, none⟩ = some (.int .i64 i) ∧ w'.cell? ⟨g, 0, none⟩ = some (.slice A9 (ins.length + 1) c9)) (ds := [12]) #[false, false, false, false, false, false, false, false, false, false, false, false, false] q28_ rfl rfl ⟨(blk_cell BGu.out 4).trans rfl, (blk_cell BXu.out 0).trans rfl, (blk_cell BXu.out 1).trans rfl, (blk_cell BGu.out 0).trans rfl⟩ (fun hHeld => ?_); refine with_tabW blast15_tab blast15_bits (fun HT_ HW_ => ?_)
          generalize wr3.drew = wu at BGu BXu B8u HRu HMu HAu HBu hHeld ⊢
          refine pz_ (i := 0) (N := some 55) (h := ?_)
          refine pz_ (i := 1) (N := some 56) (h := ?_)
          refine pz_ (i := 2) (N := some 57) (h := ?_)
          refine tz_ (i := 3) (N := some 58) (h := ?_)
          refine tz_ (i := 4) (N := some 59) (h := ?_)
          refine pz_ (i := 5) (N := some 60) (h := ?_)
          refine pz_ (i := 6) (N := some 61) (h := ?_)
          refine pz_ (i := 7) (N := some 62) (h := ?_)
          refine pz_ (i := 8) (N := some 63) (h := ?_)
          refine tz_ (i := 9) (N := some 64) (h := ?_)
          refine pz_ (i := 10) (N := some 65) (h := ?_)
          refine pz_ (i := 11) (N := some 66) (h := ?_)
          refine last_ (i := 12) (N := none) #[true, true, true, true, true, true, true, true, true, true, true, true, true] rfl rfl (one_of HT_.out q28_) q33_ (fun K hK => ?_)
          obtain ⟨w8, hrun8, hown8, hg8⟩ := HAu.out.update keyedI Tryd.underlying68 (show ins.length < maxLen by have := HIL.out; unfold maxLen; omega) HKEY.out (plainElem_int Tryd.underlying3 HVW.out)
          refine skip_ (w1 := w8) (by rfl) rfl ?_ ?_
          · go_simp
          refine hK.out _ _ ?_
          clear hK K
          refine done_ (done_of HT_.out q28_) ?_
          have hmapu : ∀ o, wu.heap[ba]? = some o → o.isCells = false := fun o ho => by obtain ⟨_, _, h, _⟩ := HAu.out; rw [h] at ho; cases ho; rfl
          have hgb : g ≠ ba := fun e => by have h := hmapu _ (e ▸ BGu.out); cases h
          have BI8 : BI n w3 w8 g n ba (ins ++ [.mk v.f0 i]) := by
            refine ⟨⟨_, blk_grown BGu.out hg8 (fun e => hgb (Option.some.inj e)), R_besideG HRu.out hg8 hmapu⟩, HMu.out.kept hg8 (fun e => by have := Option.some.inj e; have := HBA.out; omega), ⟨_, ?_, HIM.out.put (.mk v.f0 i) hv0 HIW.out⟩, HBu.out.grown hg8 (by have := HBu.out.size; have := HN.out; omega) (fun k e => by have := Option.some.inj e; omega), hb1, hb2, hb3⟩
            have h8 := hown8
            rw [HVV.out] at h8
            rw [List.length_append]
            exact h8
          have B88 := blk_grown B8u.out hg8 (fun e => by have h := hmapu _ ((Option.some.inj e) ▸ B8u.out); cases h)
          clear hg8 hown8 hrun8
          go_wp2
          go_roundw
          case measure => simp [intOf]; omega
          case rel => exact ⟨i + 1, by go_num, hli, ⟨by rw [HIN.out]; exact BI8⟩, ⟨B88⟩⟩
        · have hie : (List.range i) = List.range v.f1.toNat := by rw [show i = v.f1.toNat by omega]
          rw [hie, ← HSN.out] at HJ
          clear hie
          go_wp2
          go_roundw
          case measure => simp [intOf]; omega
          case rel => exact ⟨j + 1, by go_num, hlt, HJ⟩
    · obtain rfl : j = vs.length := by omega
      rw [List.take_length] at HI
      obtain ⟨ins, hins⟩ : ∃ ins, ins = insOf vs := ⟨_, rfl⟩
      have HINS := Aside0.mk hins
      rw [← hins] at HI
      have hbn : Below n w3 wr := HI.out.below
      have hbw : Below w3.heap.size w3 wr := by rwa [HN.out] at hbn
      have HBW := Aside0.mk (below_step HB3.out hbw)
      have HXr := Aside0.mk (blk_below HX3.out hbw)
      have HCr := Aside0.mk (blk_below HC3.out hbw)
      have HKr := Aside0.mk (kT.K_below HBW.out HK.out)
      obtain ⟨⟨vI, hgt, hrt⟩, hmt, ⟨D, hat, him⟩, hbt, hb1, hb2, hb3⟩ := HI.out
      obtain ⟨AI, cI, rfl⟩ := Kd.R_slice hrt
      have q0 := (blk_cell HXr.out 0).trans (show _ = some (Value.int .u8 x.f0) from rfl)
      have q1 := (blk_cell HXr.out 1).trans (show _ = some (Value.int .i64 x.f1) from rfl)
      have q2 := (blk_cell HXr.out 2).trans (show _ = some (Value.int .u64 x.f2) from rfl)
      have q3 := (blk_cell HXr.out 3).trans (show _ = some (Value.string x.f3) from rfl)
      have q4 := (blk_cell HXr.out 4).trans (show _ = some (Value.int .i64 x.f4) from rfl)
      have q5 := (blk_cell HXr.out 5).trans (show _ = some (Value.slice A5 x.f5.length c5) from rfl)
      have y0 := (blk_cell hgt 0).trans (show _ = some (Value.slice AI ins.length cI) from rfl)
      have z0 := (blk_cell HCr.out 0).trans (show _ = some (Value.slice none 0 0) from rfl)
      have z1 := (blk_cell HCr.out 1).trans (show _ = some (Value.slice none 0 0) from rfl)
      have z2 := (blk_cell HCr.out 2).trans (show _ = some (Value.slice none 0 0) from rfl)
      have f0 := blk_frozen HCr.out 0
      have f1 := blk_frozen HCr.out 1
      have f2 := blk_frozen HCr.out 2
      have HGT := Aside0.mk hgt
      have HRT := Aside0.mk hrt
      have HMT := Aside0.mk hmt
      have HAT := Aside0.mk hat
      have HIM := Aside0.mk him
      have HLT := Aside0.mk (blk_lt HCr.out)
      have HLT2 := Aside0.mk (show w.heap.size + 1 < n by have := blk_lt HC3.out; have := HN.out; omega)
      have hbn := Aside0.mk hbn
      clear hins hbw hgt hrt hmt hat him hbt
      by_cases h1 : (512 : Int) < (ins.length : Int)
      · have HD := Aside0.mk (show 512 < (insOf vs).length ∨ 100000 < totF (nd x) from .inl (by rw [← HINS.out]; omega))
        go_wp2
        have hb3 := blk_set (blk_set (blk_set HCr.out 0 (.slice none 0 0)) 1 (.slice none 0 0)) 2 (.slice none 0 0)
        refine bodyPost_ret (blast_results _ _ (w.heap.size + 1) (.slice none 0 0) (.slice none 0 0) (.slice none 0 0) (.int .i64 4) rfl rfl (hb3.trans rfl)) rfl ?_
        exact ⟨below_set (below_set (below_set HBW.out q29_) q29_) q29_, vs, HVS.out, .inl ⟨HD.out, rfl⟩⟩
      · have HLI := Aside0.mk (show ins.length ≤ 512 by omega)
        have htot := fun W' hW' => total_calls w (nd x).length x _ W' (Nat.le_refl _) (by have := HLEN.out; omega) HCN.out HK.out hW'
        have htl := totF_le (nd x) HCN.out
        obtain ⟨tt, htt⟩ : ∃ t, t = totF (nd x) := ⟨_, rfl⟩
        rw [← htt] at htot htl
        have HTOT := Aside0.mk (htot wr HBW.out)
        have HTT := Aside0.mk htt
        have HTL := Aside0.mk htl
        clear htot htt htl
        by_cases h2 : 100000 < tt
        · have HD := Aside0.mk (show 512 < (insOf vs).length ∨ 100000 < totF (nd x) from .inr (by rw [← HTT.out]; exact h2))
          go_wp2_with (go_at_call 25; refine HTOT.out.mono ?_; rintro e w4 ⟨rfl, hb4⟩; have HB4 := Aside0.mk (below_step HBW.out hb4); have HC4 := Aside0.mk (blk_below HCr.out hb4); clear hb4 q0 q1 q2 q3 q4 q5 y0 z0 z1 z2 f0 f1 f2; have z0 := (blk_cell HC4.out 0).trans (show _ = some (Value.slice none 0 0) from rfl); have z1 := (blk_cell HC4.out 1).trans (show _ = some (Value.slice none 0 0) from rfl); have z2 := (blk_cell HC4.out 2).trans (show _ = some (Value.slice none 0 0) from rfl); have f0 := blk_frozen HC4.out 0; have f1 := blk_frozen HC4.out 1; have f2 := blk_frozen HC4.out 2)
          have hb3 := blk_set (blk_set (blk_set HC4.out 0 (.slice none 0 0)) 1 (.slice none 0 0)) 2 (.slice none 0 0)
          refine bodyPost_ret (blast_results _ _ (w.heap.size + 1) (.slice none 0 0) (.slice none 0 0) (.slice none 0 0) (.int .i64 4) rfl rfl (hb3.trans rfl)) rfl ?_
          exact ⟨below_set (below_set (below_set HB4.out q29_) q29_) q29_, vs, HVS.out, .inl ⟨HD.out, rfl⟩⟩
        · have HD := Aside0.mk (show ¬ (512 < (insOf vs).length ∨ 100000 < totF (nd x)) by rw [← HTT.out, ← HINS.out]; have := HLI.out; omega)
          go_wp2_with (go_at_call 25; refine HTOT.out.mono ?_; rintro e w4 ⟨rfl, hb4⟩; have hKB4 := Aside0.mk hb4; have HB4 := Aside0.mk (below_step HBW.out hb4); have HC4 := Aside0.mk (blk_below HCr.out hb4); have bx4 := blk_below HXr.out hb4; clear hb4 q0 q1 q2 q3 q4 q5 y0 z0 z1 z2 f0 f1 f2; have q0 := (blk_cell bx4 0).trans (show _ = some (Value.int .u8 x.f0) from rfl); have q1 := (blk_cell bx4 1).trans (show _ = some (Value.int .i64 x.f1) from rfl); have q2 := (blk_cell bx4 2).trans (show _ = some (Value.int .u64 x.f2) from rfl); have q3 := (blk_cell bx4 3).trans (show _ = some (Value.string x.f3) from rfl); have q4 := (blk_cell bx4 4).trans (show _ = some (Value.int .i64 x.f4) from rfl); have q5 := (blk_cell bx4 5).trans (show _ = some (Value.slice A5 x.f5.length c5) from rfl))
          have hlg : n ≤ w4.heap.size := by have := hKB4.out.size; have := hbn.out.size; have := HN.out; omega
          have hgw : w.heap.size + 1 < g := by have := HLT2.out; have := HGB.out; omega
          have M4 : MK ins.length w4 n g (.slice AI ins.length cI) (.slice none 0 0) n ba [] := ⟨⟨AI, cI, rfl⟩, ⟨.slice none 0 0, blk_below HGT.out hKB4.out, Kd.R_nil _ _ _ _ _⟩, ⟨.map [], by obtain ⟨es, c, h, h'⟩ := HMT.out; exact ⟨es, c, blk_below h hKB4.out, h'⟩, GM.nil _⟩, hb1, hb2⟩
          have A4 : AT w4 ba (atIns ins) := ⟨D, ins.length, by obtain ⟨es, c, h, h'⟩ := HAT.out; exact ⟨es, c, blk_below h hKB4.out, h'⟩, fun s b hs hb => HIM.out.lit s b hs hb⟩
          have hterm := term_calls ins.length w3 n HN.out g (.slice AI ins.length cI) (.slice none 0 0) n ba (by have := HBA.out; omega) (atIns ins) (nd x).length x _ [] w4 (Nat.le_refl _) HNB.out (fun y hy h5 h2 i hi => by
            obtain ⟨b, hb, e0, e1⟩ := (HVS.out.mem y.f3 y.f1).2 ⟨y, hy, h2, rfl, rfl⟩
            obtain ⟨j, hj1, hj2⟩ := insAt_some (ins := ins) (s := y.f3) (b := (i : Int)) ⟨.mk b.f0 i, by
              rw [HINS.out]
              refine List.mem_flatMap.2 ⟨b, hb, List.mem_map.2 ⟨i, List.mem_range.2 q29_, rfl⟩⟩, e0, rfl⟩
            rw [atIns, hj1]
            exact ⟨by show 0 ≤ 2 * ((j + 1 : Nat) : Int); omega, by show 2 * ((j + 1 : Nat) : Int) < 2 * ((1 + ins.length + 0 : Nat) : Int); omega⟩) (by
            have h1 := HCST.out
            have h3 := HLI.out
            rw [← HTT.out] at h1
            show ins.length + 0 + cst (nd x) ≤ 1000000
            omega) (kT.K_below HB3.out HK.out) (hbn.out.trans (hKB4.out.mono (by have := hbn.out.size; have := HN.out; omega))) M4 A4
          obtain ⟨r, hr⟩ : ∃ r, r = pTerm ins.length (atIns ins) [] x := ⟨_, rfl⟩
          rw [← hr] at hterm
          have HTM := Aside0.mk hterm
          have HR := Aside0.mk hr
          have HB4n := Aside0.mk hlg
          have HM4 := Aside0.mk M4
          have HRT4 := Aside0.mk (Kd.R_below HRT.out hKB4.out)
          clear hterm hr hlg M4 A4
          go_wp2_with (first | (refine HTM.out.mono ?_; rintro e w5 ⟨v, rfl, hm5, hk5, hr5⟩; have HM5 := Aside0.mk hm5; have HK5 := Aside0.mk hk5; have HR5 := Aside0.mk hr5; have HCL := Aside0.mk (cloneI_calls v r.2 w5 hr5); have HC5 := Aside0.mk (hk5.typed HM4.out.noCells q33_ _ _ HC4.out); have HRT5 := Aside0.mk (HRT4.out); clear hm5 hk5 hr5 q0 q1 q2 q3 q4 q5) | (go_at_call 26; refine HCL.out.mono ?_; rintro e w6 ⟨v', rfl, hr6, hb6⟩; obtain ⟨A9, c9, rfl⟩ := Kd.R_slice hr6; obtain ⟨_, ⟨vG, hgb, hgr⟩, _, _, _⟩ := HM5.out; obtain ⟨AG, cG, rfl⟩ := Kd.R_slice hgr; have HG6 := Aside0.mk (blk_below hgb hb6); have HC6 := Aside0.mk (blk_below HC5.out hb6); have HGR := Aside0.mk (Kd.R_below hgr hb6); have HR6 := Aside0.mk hr6; have HB6 := Aside0.mk hb6; clear hgb hgr hr6 hb6; have y0 := (blk_cell HG6.out 0).trans (show _ = some (Value.slice AI ins.length cI) from rfl); have y1 := (blk_cell HG6.out 1).trans (show _ = some (Value.slice AG r.1.length cG) from rfl); have y2 := (blk_cell HG6.out 2).trans (show _ = some (Value.slice none 0 0) from rfl); have gf := blk_frozen HG6.out 2; have z0 := (blk_cell HC6.out 0).trans (show _ = some (Value.slice none 0 0) from rfl); have z1 := (blk_cell HC6.out 1).trans (show _ = some (Value.slice none 0 0) from rfl); have z2 := (blk_cell HC6.out 2).trans (show _ = some (Value.slice none 0 0) from rfl); have f0 := blk_frozen HC6.out 0; have f1 := blk_frozen HC6.out 1; have f2 := blk_frozen HC6.out 2))
          have hne : w.heap.size + 1 ≠ g := by omega
          have e0 := HG6.out
          have e1 := HC6.out
          have hb3 := blk_set (blk_set (blk_set (blk_far e1 (p := ⟨g, 2, none⟩) hne (.slice A9 r.2.length c9)) 0 (.slice AI ins.length cI)) 1 (.slice AG r.1.length cG)) 2 (.slice A9 r.2.length c9)
          have hns : w.heap.size ≤ n := by have := HLT2.out; omega
          have hs6 : n ≤ w6.heap.size := Nat.le_trans HB4n.out (Nat.le_trans HK5.out.below.size HB6.out.size)
          refine bodyPost_ret (blast_results _ _ (w.heap.size + 1) (.slice AI ins.length cI) (.slice AG r.1.length cG) (.slice A9 r.2.length c9) (.int .i64 0) rfl rfl (hb3.trans rfl)) rfl ?_
          refine ⟨below_set (below_set (below_set (below_set ((HB4.out.trans (HK5.out.below.mono hns)).trans (HB6.out.mono (by have := HK5.out.below.size; have := HB4n.out; omega))) q29_) q29_) q29_) q29_, vs, HVS.out, .inr ⟨HD.out, .slice AI ins.length cI, .slice AG r.1.length cG, .slice A9 r.2.length c9, rfl, ?_, ?_, ?_⟩⟩
          · rw [← HINS.out]
            exact R_fin (Kd.R_below (Kd.R_lower (R_mkeep HRT4.out HK5.out HM4.out.noCells q33_) hns) HB6.out) e0 e1 q33_ _ _ _ _
          · rw [← HINS.out, ← HR.out]
            exact R_fin (Kd.R_lower HGR.out hns) e0 e1 q33_ _ _ _ _
          · rw [← HINS.out, ← HR.out]
            exact R_fin (Kd.R_lower HR6.out (by have := HK5.out.below.size; have := HB4n.out; omega)) e0 e1 q33_ _ _ _ _
end Go.Proofs.YtjopdafckhkmmaaDoor.MBS
