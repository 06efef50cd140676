/- maker.term, by hand. -/
import Derived.Test.YtjopdafckhkmmaaDoorCBSatHBSPTerm
set_option linter.unusedVariables false
set_option linter.unusedSimpArgs false
namespace Go.Proofs.YtjopdafckhkmmaaDoor.MBS
open Go.Proofs.YtjopdafckhkmmaaDoor.Zed Go.RowKit Go.Proofs.YtjopdafckhkmmaaDoorW.PrintWords Go.Proofs.YtjopdafckhkmmaaDoorW.PrintLast Go.Proofs.YtjopdafckhkmmaaDoorW.PrintMore
attribute [local go_sem] Oper.semAt_some
def term24_T : Bool × List (List Nat × List Nat) := (true, [([], []), ([], []), ([1], [1]), ([], []), ([], []), ([4], [4]), ([5], [5]), ([0, 2, 3, 6], [0, 2, 3, 6]), ([7, 7, 0, 1, 2, 3, 4, 5, 6, 7], [7])])
def term24_B : List Nat := [0, 0, 2, 0, 0, 16, 48, 127, 255]
theorem term24_tab : rtab .any (opsOf Tryd.f27 24) = term24_T := by kernel_rfl
theorem term24_bits : waitsOk term24_T.2 term24_B = true := by kernel_rfl
theorem infoL : (Tryd.prog.info? 30).map (fun i => (i.zero, i.size, i.bytes)) = some (some (.slice none 0 0), 1, 24) := by kernel_rfl
abbrev kV : Kd (List Value) := Kd.raw 1
/-- The maker beside a row of another type that grows. -/
theorem MK.grownT {nIn : Nat} {W W' : World} {base g : Nat} {vI vO : Value} {bs ba : Nat} {gs : List Gt} (h : MK nIn W base g vI vO bs ba gs) {row : Option Nat} (hg : W.grownBy W' row) (hr : ∀ k, row = some k → ∃ cells e, W.heap[k]? = some (.cells cells e (0, 0)) ∧ e ≠ 49 ∧ e ≠ 70) : MK nIn W' base g vI vO bs ba gs := by
  have hne : ∀ (k : Nat) (o : Obj), W.heap[k]? = some o → (∀ cs e, e ≠ 49 → e ≠ 70 → o ≠ .cells cs e (0, 0)) → some k ≠ row := fun k o ho hc e => by
    obtain ⟨cells, t, h1, h2, h3⟩ := hr k e.symm
    rw [ho] at h1
    exact hc _ _ h2 h3 (Option.some.inj h1)
  obtain ⟨h1, ⟨vG, h2, h3⟩, ⟨D, h4, h5⟩, h6, h7⟩ := h
  refine ⟨h1, ⟨vG, blk_grown h2 hg (hne _ _ h2 (fun cs e _ he2 e3 => by cases e3; exact he2 rfl)), ?_⟩, ⟨D, ?_, h5⟩, h6, h7⟩
  · refine Kd.R_mono (Kd.R_move (Kd.R_bound h3) (fun k hk => ?_)) (fun _ _ => trivial)
    obtain ⟨_, _, hlt, q, hq, cells, hc⟩ := hk
    refine hg.block k hlt (hne k _ hc (fun cs e he1 _ e3 => ?_))
    cases e3
    have : q = 49 := by simpa [k49, Kd.iso, Kd.pair, Kd.int, Kd.scalar] using hq
    exact he1 this
  · obtain ⟨es, cl, e1, e2⟩ := h4
    exact ⟨es, cl, blk_grown e1 hg (hne _ _ e1 (fun cs e _ _ e3 => by cases e3)), e2⟩
theorem KI.grownT {W W' : World} {row : Option Nat} (hg : W.grownBy W' row) (hr : ∀ k, row = some k → ∃ cells e, W.heap[k]? = some (.cells cells e (0, 0)) ∧ e ≠ 3) : KI W W' := fun k cs hk => blk_grown hk hg (fun e => by
  obtain ⟨cells, t, h1, h2⟩ := hr k e.symm
  rw [hk] at h1
  injection h1 with h1
  injection h1 with _ h1
  exact h2 h1.symm)
/-- A row of slices' values. -/
theorem kV_keep {W W' : World} {base : Nat} {ok : Nat → Prop} {v : Value} {xs : List (List Value)} (h : kV.R 30 W base ok v xs) (hk : ∀ (k : Nat) (cs : Array Value), W.heap[k]? = some (.cells cs 30 (0, 0)) → W'.heap[k]? = some (.cells cs 30 (0, 0))) : kV.R 30 W' base ok v xs := by
  obtain ⟨h0, inner, ho, hr⟩ := h
  refine ⟨h0, inner, ⟨ho.1, ?_⟩, hr.imp_ (fun _ _ hp => hp)⟩
  rcases ho.2 with hv | ⟨g, cap, cur, hv, hb, hg, hn, hm, hs, ht⟩
  · exact .inl hv
  · exact .inr ⟨g, cap, cur, hv, hb, hk g cur hg, hn, hm, hs, ht⟩
theorem MKeep.typed {base bs : Nat} {W W' : World} (h : MKeep base bs W W') (hbs : ∀ o, W.heap[bs]? = some o → o.isCells = false) {e : TypeId} (he : e ≠ 49 ∧ e ≠ 70) : ∀ (k : Nat) (cs : Array Value), W.heap[k]? = some (.cells cs e (0, 0)) → W'.heap[k]? = some (.cells cs e (0, 0)) := fun k cs hk =>
  h.keep k _ hk (fun e => by subst e; have := hbs _ hk; cases this) (fun cs' q fr e => by cases e; exact he)
theorem kV_at {W : World} {base : Nat} {ok : Nat → Prop} {v : Value} {vs : List Value} (h : kV.R 30 W base ok v (vs.map fun v => [v])) {i : Nat} {u : Value} (hi : vs[i]? = some u) : ∃ A c, v = .slice (some A) vs.length c ∧ W.cell? (A.add i) = some u := by
  obtain ⟨A, c, hv, _, hC⟩ := Kd.R_reads h
  rw [List.length_map] at hv hC
  have hlt := (List.getElem?_eq_some_iff.1 hi).1
  obtain ⟨ad, hA, hx⟩ := hC.2.2 q29_
  subst hA
  obtain ⟨c0, _, ⟨h1, _⟩, h2⟩ := hx i [u] (by rw [List.getElem?_map, hi]; rfl)
  refine ⟨ad, c, hv, ?_⟩
  have := h2 0 u (by rw [h1]; rfl)
  have e : i * kV.sz + 0 = i := by show i * 1 + 0 = i; omega
  rw [e] at this
  exact this
theorem pTermL_len (n : Nat) (atL : ByteArray → Int → Int) : ∀ (l : List Tm) (gs : List Gt), (pTermL n atL gs l).2.length = l.length
  | [], gs => by simp [pTermL]
  | x :: l, gs => by simp [pTermL, pTermL_len n atL l]
theorem NB.few {x : Tm} (h : NB x) : x.f5.length ≤ 3 := by
  obtain ⟨_, _, ⟨h, _⟩ | ⟨_, a, b, h, _⟩⟩ := h <;> rw [h] <;> simp
theorem RI.slice {W : World} {v : Value} {xs : List Int} (h : RI W v xs) : ∃ A c, v = .slice A xs.length c := by
  obtain ⟨_, A, c, hv, _⟩ := h
  exact ⟨A, c, hv⟩
set_option maxRecDepth 100000 in
set_option maxHeartbeats 2000000 in
theorem term_calls (nIn : Nat) (w0 : World) (base : Nat) (hbase : base = w0.heap.size) (g : Nat) (vI vO : Value) (bs ba : Nat) (hne : ba ≠ bs) (atL : ByteArray → Int → Int) :
    ∀ (k : Nat) (x : Tm) (cs : List Value) (gs : List Gt) (W : World), (nd x).length ≤ k → (∀ y ∈ nd x, NB y) → AtOk nIn atL (nd x) → nIn + gs.length + cst (nd x) ≤ 1000000 → kT.K w0 x cs → Below base w0 W → MK nIn W base g vI vO bs ba gs → AT W ba atL →
      Calls Tryd.prog 27 #[.pointer (some ⟨g, 0, none⟩), .agg cs.toArray] W fun e w' => ∃ v, e = .returned v ∧ MK nIn w' base g vI vO bs ba (pTerm nIn atL gs x).1 ∧ MKeep base bs W w' ∧ RI w' v (pTerm nIn atL gs x).2 := by
  intro k
  induction k with
  | zero => intro x cs gs W hk; rw [nd_eq] at hk; simp at hk
  | succ k ih =>
    intro x cs gs W hk hnb hat hsz hK hb0 hM hA
    have hbW : base ≤ W.heap.size := by have := hb0.size; omega
    have hnx : NB x := hnb x (by rw [nd_eq]; simp)
    have HK0 := Aside0.mk hK
    obtain ⟨A5, c5, rfl, l5, g5⟩ := k25_open hK
    have hu25 := Tryd.underlying25
    obtain ⟨Wb, hWb⟩ : ∃ Wb, Wb = (W.alloc (.cells #[.pointer (some ⟨g, 0, none⟩)] 66)).alloc (.cells #[.int .u8 x.f0, .int .i64 x.f1, .int .u64 x.f2, .string x.f3, .int .i64 x.f4, .slice A5 x.f5.length c5] 25) := ⟨_, rfl⟩
    have hbel : Below W.heap.size W Wb := by rw [hWb]; exact below_alloc (below_alloc (Below.refl _ _) _) _
    have hz : Wb.heap.size = W.heap.size + 2 := by rw [hWb]; simp
    have bm : Boxed Wb W.heap.size 66 (.pointer (some ⟨g, 0, none⟩)) := by rw [hWb]; exact (Boxed.new W _ _).alloc _
    have bx : Wb.heap[W.heap.size + 1]? = some (.cells #[.int .u8 x.f0, .int .i64 x.f1, .int .u64 x.f2, .string x.f3, .int .i64 x.f4, .slice A5 x.f5.length c5] 25 (0, 0)) := by
      rw [hWb]
      have := blk_new (W.alloc (.cells #[.pointer (some ⟨g, 0, none⟩)] 66)) (.cells #[.int .u8 x.f0, .int .i64 x.f1, .int .u64 x.f2, .string x.f3, .int .i64 x.f4, .slice A5 x.f5.length c5] 25)
      simpa using this
    have kb : MKeep base bs W Wb := MKeep.of_below bs hbel hbW
    have Mb := hM.below hbel
    have Ab := hA.below hbel
    have q5 := (blk_cell bx 5).trans (show _ = some (Value.slice A5 x.f5.length c5) from rfl)
    have q0 := (blk_cell bx 0).trans (show _ = some (Value.int .u8 x.f0) from rfl)
    have q1 := (blk_cell bx 1).trans (show _ = some (Value.int .i64 x.f1) from rfl)
    have q2 := (blk_cell bx 2).trans (show _ = some (Value.int .u64 x.f2) from rfl)
    have q3 := (blk_cell bx 3).trans (show _ = some (Value.string x.f3) from rfl)
    have q4 := (blk_cell bx 4).trans (show _ = some (Value.int .i64 x.f4) from rfl)
    have dm := bm.cell
    by_cases h5 : x.f5 = []
    · have hl := leaf_calls nIn w0 Wb base g vI vO bs ba gs atL x _ hK Mb Ab (by have := hnx.1; omega) hnx.2.1 (by
        obtain ⟨_, _, ⟨_, h, _⟩ | ⟨_, a, b, h, _⟩⟩ := hnx
        · exact h
        · rw [h5] at h; cases h) (by
        obtain ⟨_, _, ⟨_, _, h⟩ | ⟨_, a, b, h, _⟩⟩ := hnx
        · exact h
        · rw [h5] at h; cases h)
      rw [pTerm_leaf nIn atL gs x h5]
      obtain ⟨out, hout⟩ : ∃ out, out = pLeaf atL x := ⟨_, rfl⟩
      rw [← hout] at hl ⊢
      have HL := Aside0.mk hl
      have MB := Aside0.mk Mb
      have KB := Aside0.mk kb
      have HZ := Aside0.mk (show base ≤ Wb.heap.size by omega)
      have h5l : (x.f5.length == 0) = true := by simp [h5]
      have h5n : x.f5.length = 0 := by simp [h5]
      rw [h5n] at h5l q5 hWb bx HL ⊢
      clear hl hout ih hnb hat hsz hK hb0 hM hA hnx g5 l5 hk Mb Ab kb hbel h5 bx h5n bm HK0
      rw [hWb] at HL dm q0 q1 q2 q3 q4 q5
      go_enter Tryd.func27, Tryd.ntmps27
      go_wp2_with (go_at_call 44; with_reducible refine HL.out.mono ?_; rintro e w1 ⟨v, rfl, hb1, hr1⟩; have B1 := Aside0.mk hb1; have R1 := Aside0.mk hr1; clear hb1 hr1)
      rw [← hWb] at B1
      go_ret
      exact ⟨v, rfl, MB.out.below B1.out, KB.out.trans (MKeep.of_below bs B1.out HZ.out), R1.out⟩
    · have h5l : (x.f5.length == 0) = false := by
        cases h : x.f5 with
        | nil => exact absurd h h5
        | cons _ _ => rfl
      have h5i : ((x.f5.length : Int) == 0) = false := by
        cases h : x.f5 with
        | nil => exact absurd h h5
        | cons _ _ => simp <;> omega
      have hm := g5.2.1
      obtain ⟨sub, hsub⟩ : ∃ sub, sub = x.f5 := ⟨_, rfl⟩
      have hnd : nd x = x :: ndL sub := by rw [hsub]; exact nd_eq x
      have hpt : pTerm nIn atL gs x = pOp nIn (pTermL nIn atL gs sub).1 x (pTermL nIn atL gs sub).2 := by rw [hsub]; exact pTerm_node nIn atL gs x h5
      rw [← hsub] at g5 l5 hm q5 bx hWb h5 h5l h5i
      have hnbL : ∀ y ∈ ndL sub, NB y := fun y hy => hnb y (by rw [hnd]; simp [hy])
      have hatL : AtOk nIn atL (ndL sub) := fun y hy => hat y (by rw [hnd]; simp [hy])
      rw [hnd, cst_cons] at hsz
      rw [hnd, List.length_cons] at hk
      have hPL : ∀ (i : Nat) (hi : i < sub.length), nIn + (pTermL nIn atL gs (sub.take i)).1.length + cst (nd sub[i]) ≤ 1000000 := fun i hi => by
        have e1 := congrArg cst (ndL_take_succ sub i hi)
        have e2 : cst (ndL (sub.take (i + 1))) ≤ cst (ndL sub) := by
          conv => rhs; rw [← List.take_append_drop (i + 1) sub, ndL_append, cst_append]
          omega
        rw [cst_append] at e1
        have h1 := (pTermL_ok nIn atL (sub.take i) gs (fun y hy => hnbL y (by
          rw [← List.take_append_drop i sub, ndL_append]; simp [hy])) (fun y hy => hatL y (by
          rw [← List.take_append_drop i sub, ndL_append]; simp [hy])) q29_).2.1
        omega
      have hTS : ∀ (i : Nat) (hi : i < sub.length), pTermL nIn atL gs (sub.take (i + 1)) = ((pTerm nIn atL (pTermL nIn atL gs (sub.take i)).1 sub[i]).1, (pTermL nIn atL gs (sub.take i)).2 ++ [(pTerm nIn atL (pTermL nIn atL gs (sub.take i)).1 sub[i]).2]) := fun i hi => by
        rw [List.take_succ_eq_append_getElem hi, pTermL_snoc]
      have hIH : ∀ (i : Nat) (hi : i < sub.length) (cs' : List Value) (W' : World), kT.K w0 sub[i] cs' → Below base w0 W' → MK nIn W' base g vI vO bs ba (pTermL nIn atL gs (sub.take i)).1 → AT W' ba atL →
          Calls Tryd.prog 27 #[.pointer (some ⟨g, 0, none⟩), .agg cs'.toArray] W' fun e w' => ∃ v, e = .returned v ∧ MK nIn w' base g vI vO bs ba (pTermL nIn atL gs (sub.take (i + 1))).1 ∧ MKeep base bs W' w' ∧ RI w' v (pTerm nIn atL (pTermL nIn atL gs (sub.take i)).1 sub[i]).2 := fun i hi cs' W' hk' hb' hm' ha' => by
        have hp := hPL i hi
        rw [hTS i hi]
        exact ih sub[i] cs' _ W' (by have := ndL_len sub i hi; omega) (fun y hy => hnbL y (ndL_mem sub i hi y hy)) (fun y hy => hatL y (ndL_mem sub i hi y hy)) hp hk' hb' hm' ha'
      have HSL := Aside0.mk (show sub.length ≤ 3 by rw [hsub]; exact hnx.few)
      have HIH := Aside0.mk hIH
      have HTS := Aside0.mk hTS
      have HG := Aside0.mk g5
      have HB0 := Aside0.mk hb0
      have HND := Aside0.mk hnd
      have HPT := Aside0.mk hpt
      have HNB := Aside0.mk hnb
      have HAT := Aside0.mk hat
      have HSZ := Aside0.mk hsz
      have HM := Aside0.mk hM
      have MB := Aside0.mk Mb
      have AB := Aside0.mk Ab
      have KB := Aside0.mk kb
      have BM := Aside0.mk bm
      have BX := Aside0.mk bx
      have HZ := Aside0.mk hz
      have HBW := Aside0.mk hbW
      have HNX := Aside0.mk hnx
      have H5 := Aside0.mk h5
      have HBE := Aside0.mk hbel
      have HSUB := Aside0.mk hsub
      clear hIH hTS hPL ih hk hnbL hatL g5 hb0 hnd hpt hnb hat hsz hM Mb Ab kb bm bx hz hbW hnx h5 hbel hK hA HK0 l5
      rw [hWb] at dm q0 q1 q2 q3 q4 q5
      go_enter Tryd.func27, Tryd.ntmps27
      rw [← hsub]
      clear hsub
      go_wp2
      rw [← hWb] at dm q0 q1 q2 q3 q4 q5 ⊢
      clear hWb
      clear dm q0 q1 q2 q3 q4 q5
      go_loopw [5, 21] (fun v5 v21 wr => ∃ (i : Nat) (vs : List Value), v21 = .int .i64 i ∧ i ≤ sub.length ∧ vs.length = i ∧ Aside0 (kV.R 30 wr Wb.heap.size (fun _ => True) v5 (vs.map fun v => [v])) ∧ Aside0 (∀ (j : Nat) (l : List Int), (pTermL nIn atL gs (sub.take i)).2[j]? = some l → ∃ v, vs[j]? = some v ∧ RI wr v l) ∧ Aside0 (MK nIn wr base g vI vO bs ba (pTermL nIn atL gs (sub.take i)).1) ∧ Aside0 (MKeep base bs Wb wr)) (fun v5 v21 _ => sub.length - (intOf v21).toNat)
      case atStart => exact ⟨0, [], rfl, Nat.zero_le _, rfl, ⟨Kd.R_nil _ _ _ _ _⟩, ⟨by simp [pTermL]⟩, ⟨by simpa [pTermL] using MB.out⟩, ⟨MKeep.refl _ _ _⟩⟩
      case round =>
        obtain ⟨i, vs, rfl, hi, hvl, HV, HRI, HMi, HKb⟩ := hrel
        have HKi := Aside0.mk (KB.out.trans HKb.out)
        have HVL := Aside0.mk hvl
        clear hvl
        have dm := (HKb.out.box BM.out (MB.out.boxNe BM.out) q33_).cell
        have hws : W.heap.size < wr.heap.size := by have := HKb.out.below.size; have := HZ.out; omega
        by_cases hlt : i < sub.length
        · obtain ⟨ad, A', c', rfl, p0, p1, p2, p3, p4, p5, l', g'⟩ := at_T25 HG.out (i : Int) q29_ q29_
          have hrd : rd_T25 sub (i : Int) = sub[i] := by simp [rd_T25, List.getD_eq_getElem?_getD, hlt]
          rw [hrd] at p0 p1 p2 p3 p4 p5 l' g'
          have hKY := k25_mk w0 sub[i] l' g'
          have hbw : Below w0.heap.size w0 wr := by have := HB0.out.trans HKi.out.below; rwa [hbase] at this
          replace p0 := (hbw.cell (World.block_lt_of_cell? w0 _ p0)).trans p0
          replace p1 := (hbw.cell (World.block_lt_of_cell? w0 _ p1)).trans p1
          replace p2 := (hbw.cell (World.block_lt_of_cell? w0 _ p2)).trans p2
          replace p3 := (hbw.cell (World.block_lt_of_cell? w0 _ p3)).trans p3
          replace p4 := (hbw.cell (World.block_lt_of_cell? w0 _ p4)).trans p4
          replace p5 := (hbw.cell (World.block_lt_of_cell? w0 _ p5)).trans p5
          simp only [Int.toNat_natCast] at p0 p1 p2 p3 p4 p5
          have hts := HTS.out i hlt
          have hih := HIH.out i hlt _ (wr.alloc (.cells #[.int .u8 sub[i].f0, .int .i64 sub[i].f1, .int .u64 sub[i].f2, .string sub[i].f3, .int .i64 sub[i].f4, .slice A' sub[i].f5.length c'] 25)) hKY ((HB0.out.trans HKi.out.below).alloc (by have := HKi.out.below.size; have := HBW.out; omega) _) (HMi.out.below (below_alloc (Below.refl _ _) _)) ((AB.out.keep HKb.out hne).below (below_alloc (Below.refl _ _) _))
          obtain ⟨lv, hlv⟩ : ∃ lv, lv = (pTerm nIn atL (pTermL nIn atL gs (sub.take i)).1 sub[i]).2 := ⟨_, rfl⟩
          rw [← hlv] at hih hts
          obtain ⟨y, hy⟩ : ∃ y, y = sub[i] := ⟨_, rfl⟩
          rw [← hy] at p0 p1 p2 p3 p4 p5 hih
          have HC := Aside0.mk hih
          have HTS2 := Aside0.mk (congrArg Prod.snd hts)
          have HLN := Aside0.mk (show (pTermL nIn atL gs (sub.take i)).2.length = i by rw [pTermL_len, List.length_take]; omega)
          have HLE := Aside0.mk (show base ≤ wr.heap.size by have := HKi.out.below.size; have := HBW.out; omega)
          have HLW := Aside0.mk (show W.heap.size ≤ wr.heap.size from HKi.out.below.size)
          clear hih hts hlv hy hbw hKY g' l' hrd
          go_wp2_with (first | (go_at_call 27; refine HC.out.mono ?_; rintro e w3 ⟨v, rfl, hm3, hk3, hr3⟩; obtain ⟨Av, cv, rfl⟩ := hr3.slice; have hka := (MKeep.of_below bs (below_alloc (Below.refl wr.heap.size wr) _) HLE.out).trans hk3; have M3 := Aside0.mk hm3; have K3 := Aside0.mk (HKi.out.trans hka); have KB3 := Aside0.mk (HKb.out.trans hka); have R3 := Aside0.mk hr3; have V3 := Aside0.mk (kV_keep HV.out (hka.typed HMi.out.noCells q33_)); have RI3 := Aside0.mk (show ∀ (j : Nat) (l : List Int), (pTermL nIn atL gs (sub.take i)).2[j]? = some l → ∃ v, vs[j]? = some v ∧ RI w3 v l from fun j l hj => by (obtain ⟨v, e1, e2⟩ := HRI.out j l hj; exact ⟨v, e1, e2.keep (HMi.out.ki hka)⟩)); have HLW3 := Aside0.mk (show Wb.heap.size ≤ w3.heap.size from KB3.out.below.size); clear hm3 hk3 hr3 hka) | ((with_reducible refine gate_builtin (b := .append) (xs := #[.tmp 25, .tmp 29]) rfl ?_); at_builtin; go_loud (refine Kd.R_append kV (w0 := w3) Wb.heap.size rfl (.tmp 25) (.tmp 29) 54 30 (.slice none 0 0) 24 rfl Tryd.underlying54 infoL rfl q33_ q33_ u5 (vs.map fun v => [v]) [.slice Av lv.length cv] [.slice Av lv.length cv] (fun _ => True) (fun _ => False) rfl rfl ⟨rfl, rfl, fun u hu => by (rw [List.mem_singleton.1 hu]; rfl)⟩ (fun _ hk => hk.elim) (fun _ _ => trivial) V3.out (Below.refl _ _) HLW3.out (by have := HVL.out; have := HSL.out; rw [List.length_map]; omega) ?_); intro v5 w5 ho5 hb5 hg5 hat5))
          have hrow : ∀ k, u5.ownBlock = some k → ∃ cells e, w3.heap[k]? = some (.cells cells e (0, 0)) ∧ e = 30 := fun k e => by
            obtain ⟨inner, ho⟩ := Kd.R_own V3.out
            obtain ⟨cells, hc⟩ := own_typed ho k e
            exact ⟨cells, _, hc, rfl⟩
          have M5 := M3.out.grownT hg5 (fun k e => by obtain ⟨cells, e', h1, rfl⟩ := hrow k e; exact ⟨cells, _, h1, by decide⟩)
          have hki := KI.grownT hg5 (fun k e => by obtain ⟨cells, e', h1, rfl⟩ := hrow k e; exact ⟨cells, _, h1, by decide⟩)
          have hbase5 : ∀ k, u5.ownBlock = some k → Wb.heap.size ≤ k := fun k e => Kd.R_base V3.out k e
          have KB5 := KB3.out.grownNew rfl (by have := HZ.out; have := HBW.out; omega) hg5 hbase5
          go_wp2
          go_roundw
          case measure => simp [intOf]; omega
          case rel =>
            refine ⟨i + 1, vs ++ [.slice Av lv.length cv], by go_num, hlt, by simp [HVL.out], ⟨by rw [List.map_append]; exact ho5⟩, ⟨fun j l hj => ?_⟩, ⟨M5⟩, ⟨KB5⟩⟩
            rw [HTS2.out] at hj
            have hlen : (pTermL nIn atL gs (sub.take i)).2.length = vs.length := HLN.out.trans HVL.out.symm
            by_cases hj' : j < vs.length
            · rw [List.getElem?_append_left q29_] at hj
              obtain ⟨v, e1, e2⟩ := RI3.out j l hj
              exact ⟨v, by rw [List.getElem?_append_left hj']; exact e1, e2.keep hki⟩
            · have hje : j = vs.length := by
                have := (List.getElem?_eq_some_iff.1 hj).1
                simp at this
                omega
              subst hje
              rw [List.getElem?_append_right q29_, hlen, Nat.sub_self] at hj
              obtain rfl : lv = l := by simpa using hj
              exact ⟨_, by simp, R3.out.keep hki⟩
        · obtain rfl : i = sub.length := by omega
          rw [List.take_length] at HRI HMi
          have hPL := pTermL_ok nIn atL sub gs (fun y hy => HNB.out y (by rw [HND.out]; simp [hy])) (fun y hy => HAT.out y (by rw [HND.out]; simp [hy])) (by have := HSZ.out; omega)
          have HPT2 := HPT.out
          obtain ⟨ls, hls⟩ : ∃ ls, ls = (pTermL nIn atL gs sub).2 := ⟨_, rfl⟩
          obtain ⟨G, hG⟩ : ∃ G, G = (pTermL nIn atL gs sub).1 := ⟨_, rfl⟩
          rw [← hls, ← hG] at hPL HPT2
          rw [← hls] at HRI
          rw [← hG] at HMi
          have bx := HKb.out.keep _ _ BX.out (fun e => by have := MB.out.noCells _ (by rw [← e]; exact BX.out); cases this) (fun cs' q fr e => by cases e; decide)
          have q5 := (blk_cell bx 5).trans (show _ = some (Value.slice A5 sub.length c5) from rfl)
          have q0 := (blk_cell bx 0).trans (show _ = some (Value.int .u8 x.f0) from rfl)
          have q1 := (blk_cell bx 1).trans (show _ = some (Value.int .i64 x.f1) from rfl)
          have q4 := (blk_cell bx 4).trans (show _ = some (Value.int .i64 x.f4) from rfl)
          obtain ⟨w1, w2, hnk⟩ := HNX.out
          rcases hnk with ⟨hn, _⟩ | ⟨h8, a, b, hab, ha, hb⟩
          · exact absurd (by rw [HSUB.out]; exact hn) H5.out
          · rw [← HSUB.out] at hab
            have hcost : costN x = x.f1.toNat := by rw [costN, if_neg (by rw [← HSUB.out]; exact H5.out), if_pos h8]
            obtain ⟨hp, hpl, hll, hlen, hlok⟩ := hPL
            rw [hab] at hll hlen
            obtain ⟨l0, l1, rfl⟩ : ∃ l0 l1, ls = [l0, l1] := by
              match ls, hll with
              | [l0, l1], _ => exact ⟨l0, l1, rfl⟩
            obtain ⟨v0, e0, r0⟩ := HRI.out 0 l0 rfl
            obtain ⟨v1, e1, r1⟩ := HRI.out 1 l1 rfl
            obtain ⟨A, c, rfl, hc0⟩ := kV_at HV.out e0
            obtain ⟨A', c', hA', hc1⟩ := kV_at HV.out e1
            obtain ⟨rfl, rfl⟩ : A = A' ∧ c = c' := by simpa using hA'
            have n0 : l0.length = x.f1.toNat := by rw [← ha]; exact hlen 0 a rfl
            have n1 : l1.length = x.f1.toNat := by rw [← hb]; exact hlen 1 b rfl
            have hcon : ∀ W', Below wr.heap.size wr W' → Calls Tryd.prog 51 #[.pointer (some ⟨g, 0, none⟩), .int .u8 8, v0, v1] W' fun e w' => ∃ v, e = .returned v ∧ MK nIn w' base g vI vO bs ba (pOp nIn G x [l0, l1]).1 ∧ MKeep base bs W' w' ∧ RI w' v (pOp nIn G x [l0, l1]).2 := fun W' hW' => by
              rw [pOp, if_pos h8]
              exact binAnd_calls nIn W' base g vI vO bs ba G v0 v1 l0 l1 (HMi.out.below hW') (by have := hW'.size; have := hws; have := HBW.out; omega) (by rw [n0, n1]) (r0.keep (KI.of_below hW')) (r1.keep (KI.of_below hW')) (hlok l0 (by simp)) (hlok l1 (by simp)) (by rw [n0]; have := HSZ.out; rw [hcost] at this; omega)
            obtain ⟨r, hr⟩ : ∃ r, r = pOp nIn G x [l0, l1] := ⟨_, rfl⟩
            rw [← hr] at hcon HPT2
            have HPT3 := Aside0.mk HPT2
            obtain ⟨g1, o1⟩ := r
            dsimp only at hcon
            have HC := Aside0.mk hcon
            rw [h8] at q0
            have hv2 : vs.length = 2 := by rw [HVL.out, hab]; rfl
            have hws1 : W.heap.size + 1 < wr.heap.size := by have := HKb.out.below.size; have := HZ.out; omega
            have hc0' : wr.cell? A = some v0 := by simpa [Addr.add] using hc0
            have hAb : A.block < wr.heap.size := World.block_lt_of_cell? wr _ hc0'
            rw [hv2]
            have HKW := Aside0.mk (show base ≤ wr.heap.size by have := HKi.out.below.size; have := HBW.out; omega)
            obtain ⟨B0, k0, rfl⟩ := r0.slice
            obtain ⟨B1, k1, rfl⟩ := r1.slice
            clear hcon e0 e1 r0 r1 hA' n0 n1 hlen hlok hp hpl hll hcost HPT2 hls hG bx hr w1 w2 ha hb h8 hv2 HVL hc0 hab
            go_wp2
            have hbq0 : Below wr.heap.size wr (wr.alloc (.cells #[.slice B0 l0.length k0] 30)) := below_alloc (Below.refl _ _) _
            have hbq : Below wr.heap.size wr (wr.alloc (.cells #[.slice B0 l0.length k0] 30)).drew := below_drew hbq0
            have hc1q : wr.cell? ⟨A.block, A.off + 1, none⟩ = some (.slice B1 l1.length k1) := by simpa [Addr.add] using hc1
            have hAb1 : (⟨A.block, A.off + 1, none⟩ : Addr).block < wr.heap.size := World.block_lt_of_cell? wr _ hc1q
            clear hc1
            refine start_ (n := 9) (S := fun w' => w'.cell? ⟨W.heap.size, 0, none⟩ = some (.pointer (some ⟨g, 0, none⟩)) ∧ w'.cell? ⟨W.heap.size + 1, 0, none⟩ = some (.int .u8 8) ∧ w'.cell? ⟨wr.heap.size, 0, none⟩ = some (.slice B0 l0.length k0) ∧ w'.cell? ⟨A.block, A.off + 1, none⟩ = some (.slice B1 l1.length k1)) (ds := [7, 8]) #[false, false, false, false, false, false, false, false, false] q28_ rfl rfl ⟨(hbq.cell hws).trans dm, (hbq.cell hws1).trans q0, (Boxed.new wr 30 (.slice B0 l0.length k0)).cell, (hbq.cell hAb1).trans hc1q⟩ (fun hHeld => ?_); refine with_tabW term24_tab term24_bits (fun HT_ HW_ => ?_)
            refine tz_ (i := 0) (N := some 103) (h := ?_)
            refine pz_ (i := 1) (N := some 104) (h := ?_)
            refine tz_ (i := 2) (N := some 105) (h := ?_)
            refine tz_ (i := 3) (N := some 106) (h := ?_)
            refine pz_ (i := 4) (N := some 107) (h := ?_)
            refine pz_ (i := 5) (N := some 108) (h := ?_)
            refine tz_ (i := 6) (N := some 109) (h := ?_)
            refine last_ (i := 7) (N := some 110) #[true, true, true, true, true, true, true, true, false] rfl rfl (one_of HT_.out q28_) q33_ (fun K hK => ?_)
            refine call_ (f := 51) #[.pointer (some ⟨g, 0, none⟩), .int .u8 8, .slice B0 l0.length k0, .slice B1 l1.length k1] (by rfl) rfl (by first | (go_simp; done) | (go_simp; rfl)) ?_
            refine (HC.out _ (below_drew hbq0)).mono ?_
            rintro e w6 ⟨v, rfl, hm6, hk6, hr6⟩
            refine ⟨_, rfl, ?_⟩
            refine hK.out _ _ ?_
            clear hK K
            refine mz_ (some 110) (h := ?_)
            refine last_ (i := 8) (N := some 4) #[true, true, true, true, true, true, true, true, true] rfl rfl (one_of HT_.out q28_) q33_ (fun K hK => ?_)
            refine vz_ (h := ?_)
            refine hK.out _ _ ?_
            clear hK K
            refine mz_ (some 4) (h := ?_)
            refine done_ (done_of HT_.out q28_) ?_
            go_wp2
            go_ret
            subst hbase
            exact ⟨v, rfl, by rw [HPT3.out]; exact hm6, (HKi.out.trans (MKeep.of_below bs hbq HKW.out)).trans hk6, by rw [HPT3.out]; exact hr6⟩
end Go.Proofs.YtjopdafckhkmmaaDoor.MBS
