/- The maker: and, by hand. -/
import Derived.Test.YtjopdafckhkmmaaDoorCBSatHBSMakerKey
set_option linter.unusedVariables false
set_option linter.unusedSimpArgs false
namespace Go.Proofs.YtjopdafckhkmmaaDoor.MBS
open Go.Proofs.YtjopdafckhkmmaaDoor.Zed Go.RowKit Go.Proofs.YtjopdafckhkmmaaDoorW.PrintWords Go.Proofs.YtjopdafckhkmmaaDoorW.PrintLast Go.Proofs.YtjopdafckhkmmaaDoorW.PrintMore
open Go.Maps (has IsMap Keyed)
attribute [local go_sem] Oper.semAt_some
abbrev Gt := S49
/-- The map of the gates that were made. -/
structure GM (nIn : Nat) (gs : List Gt) (D : DataW Unit) : Prop where
  isMap : IsMap D
  wf : ∀ g ∈ gs, (Lit.int .i64 g.f0).wf = true ∧ (Lit.int .i64 g.f1).wf = true
  mem : ∀ a b, (Lit.int .i64 a).wf = true → (Lit.int .i64 b).wf = true → (has D (kyG a b) = true ↔ .mk a b ∈ gs)
  at_ : ∀ i g, gs[i]? = some g → ∀ z, D.atKey (kyG g.f0 g.f1) z = .lit (.int .i64 (2 * (nIn + i + 1 : Nat)))
theorem GM.nil (nIn : Nat) : GM nIn [] (.map []) := ⟨Maps.isMap_empty, by simp, by simp [Maps.has_eq], by simp⟩
theorem GM.put {nIn : Nat} {gs : List Gt} {D : DataW Unit} (h : GM nIn gs D) (a b : Int) (ha : (Lit.int .i64 a).wf = true) (hb : (Lit.int .i64 b).wf = true) (hn : has D (kyG a b) = false) :
    GM nIn (gs ++ [.mk a b]) (D.put (kyG a b) (.lit (.int .i64 (2 * (nIn + gs.length + 1 : Nat))))) :=
  ⟨h.isMap.put _ _, fun g hg => by
    rcases List.mem_append.1 hg with hg | hg
    · exact h.wf g hg
    · rw [List.mem_singleton.1 hg]
      exact ⟨ha, hb⟩, fun c d hc hd => by
    by_cases e : kyG c d = kyG a b
    · obtain ⟨rfl, rfl⟩ := kyG_inj hc hd ha hb e
      rw [Maps.has_put_same h.isMap (show WideAt.IsKeyLit (kyG c d) from trivial)]
      simp
    · rw [Maps.has_put_other e, h.mem c d hc hd, List.mem_append]
      constructor
      · exact .inl
      · rintro (h1 | h1)
        · exact h1
        · have h2 := List.mem_singleton.1 h1
          injection h2 with h2 h3
          subst h2; subst h3
          exact absurd rfl e, fun i g hi z => by
    by_cases hlt : i < gs.length
    · rw [List.getElem?_append_left hlt] at hi
      have hm := List.mem_of_getElem? hi
      have hw := h.wf g hm
      have hne : kyG g.f0 g.f1 ≠ kyG a b := fun e => by
        have h1 := (h.mem g.f0 g.f1 hw.1 hw.2).2 hm
        rw [e, hn] at h1
        cases h1
      rw [Maps.atKey_put_other hne]
      exact h.at_ i g hi z
    · have hi' : i = gs.length := by
        have := (List.getElem?_eq_some_iff.1 hi).1
        simp at this
        omega
      subst hi'
      simp at hi
      subst hi
      exact Maps.atKey_put_same h.isMap (show WideAt.IsKeyLit (kyG a b) from trivial) _ _⟩
/-- The maker in memory. -/
structure MK (nIn : Nat) (W : World) (base g : Nat) (vI vO : Value) (bs ba : Nat) (gs : List Gt) : Prop where
  ins : ∃ A c, vI = .slice A nIn c
  block : ∃ vG, W.heap[g]? = some (.cells #[vI, vG, vO, .map (some bs), .map (some ba)] 70 (0, 0)) ∧ k49.R 49 W base (fun _ => True) vG gs
  map : ∃ D : DataW Unit, W.ownsMap Tryd.prog 49 (plainElem Tryd.prog 3) bs gs.length D ∧ GM nIn gs D
  baseG : base ≤ g
  baseM : base ≤ bs
/-- What the maker's calls keep: what lies below base; and all that is no gates' row, no maker and not its map. -/
structure MKeep (base bs : Nat) (W W' : World) : Prop where
  below : Below base W W'
  keep : ∀ (k : Nat) (o : Obj), W.heap[k]? = some o → k ≠ bs → (∀ cs q fr, o = .cells cs q fr → q ≠ 49 ∧ q ≠ 70) → W'.heap[k]? = some o
theorem MKeep.refl (base bs : Nat) (W : World) : MKeep base bs W W := ⟨Below.refl _ _, fun _ _ h _ _ => h⟩
theorem MKeep.trans {base bs : Nat} {X Y Z : World} (h : MKeep base bs X Y) (k : MKeep base bs Y Z) : MKeep base bs X Z := ⟨h.below.trans k.below, fun i o ho hi hc => k.keep i o (h.keep i o ho hi hc) hi hc⟩
/-- The place of a gate. -/
def pFind (gs : List Gt) (a b : Int) : Option Nat := gs.findIdx? (fun g => g.f0 == a && g.f1 == b)
/-- What and does, as a function: at a sorted pair; at any. -/
def pAnd2 (nIn : Nat) (gs : List Gt) (a b : Int) : List Gt × Int :=
  if a = 0 then (gs, 0) else if Go.bits .xor .i64 a 1 = b then (gs, 0) else if a = 1 then (gs, b) else if a = b then (gs, b)
  else match pFind gs a b with
    | some i => (gs, 2 * (nIn + i + 1 : Nat))
    | none => (gs ++ [.mk a b], 2 * (nIn + gs.length + 1 : Nat))
def pAnd (nIn : Nat) (gs : List Gt) (a b : Int) : List Gt × Int := pAnd2 nIn gs (min a b) (max a b)
theorem own_notG {α : Type} {d : Kd α} {e base : Nat} {ok : Nat → Prop} {w : World} {v : Value} {xs : List α} {P : Program} {H : Type} {k b n : Nat} {R : Value → Option (DataW H × List MemPlace)} {D : DataW H} (h : d.R e w base ok v xs) (hm : w.ownsMap P k R b n D) : some b ≠ v.ownBlock := fun he => by
  obtain ⟨inner, ho⟩ := Kd.R_own h
  obtain ⟨cells, hc⟩ := own_typed ho b he.symm
  obtain ⟨es, c, hb, _⟩ := hm
  rw [hb] at hc
  cases hc
theorem w64_in (n : Int) (h : -9223372036854775808 ≤ n ∧ n ≤ 9223372036854775807) : wrap64 n = n := by unfold wrap64; omega
theorem len_wrap (n m : Nat) (h : n + m ≤ 1000000) : wrap64 (2 * wrap64 ((n : Int) + ((m : Int) + 1))) = ((2 * (n + m + 1) : Nat) : Int) := by
  rw [w64_in ((n : Int) + ((m : Int) + 1)) ⟨by omega, by omega⟩, w64_in _ ⟨by omega, by omega⟩]
  omega
theorem R_besideG {α : Type} {d : Kd α} {e base : Nat} {ok : Nat → Prop} {w w1 : World} {v : Value} {xs : List α} {r : Nat} (h : d.R e w base ok v xs) (hg : w.grownBy w1 (some r)) (hr : ∀ o, w.heap[r]? = some o → o.isCells = false) : d.R e w1 base (fun _ => True) v xs :=
  Kd.R_mono (Kd.R_move (Kd.R_bound h) (fun k hk => by
    obtain ⟨_, _, hlt, q, _, cells, hc⟩ := hk
    refine hg.block k hlt (fun e => ?_)
    cases e
    have := hr _ hc
    cases this)) (fun _ _ => trivial)
theorem MKeep.grown {base bs : Nat} {W W' : World} {row : Option Nat} (hg : W.grownBy W' row) (hw : base ≤ W.heap.size) (hb : ∀ k, row = some k → base ≤ k) (ht : ∀ k, row = some k → k = bs ∨ ∃ cs q fr, W.heap[k]? = some (.cells cs q fr) ∧ (q = 49 ∨ q = 70)) : MKeep base bs W W' :=
  ⟨(Below.refl base W).grown hg hw hb, fun k o ho hne hty => (hg.block k (Array.getElem?_eq_some_iff.1 ho).1 (fun e => by
    rcases ht k e.symm with h | ⟨cs, q, fr, h1, h2⟩
    · exact hne h
    · rw [h1] at ho
      have h3 := hty cs q fr (Option.some.inj ho).symm
      rcases h2 with h2 | h2
      · exact h3.1 h2
      · exact h3.2 h2)).trans ho⟩
theorem grownBy_setCellAt (W : World) (b i : Nat) (v : Value) : W.grownBy (W.setCell ⟨b, i, none⟩ v) (some b) := ⟨rfl, rfl, rfl, by simp [World.setCell], fun k hk hne => Below.heap_setCell W ⟨b, i, none⟩ v k (by show k ≠ b; intro e; exact hne (by rw [e]))⟩
theorem pFind_none {gs : List Gt} {a b : Int} (h : .mk a b ∉ gs) : pFind gs a b = none := by
  rw [pFind, List.findIdx?_eq_none_iff]
  intro x hx
  cases hq : (x.f0 == a && x.f1 == b) with
  | false => rfl
  | true =>
    simp only [Bool.and_eq_true, beq_iff_eq] at hq
    obtain ⟨rfl, rfl⟩ := hq
    exact absurd hx h
theorem pFind_some {gs : List Gt} {a b : Int} (h : .mk a b ∈ gs) : ∃ i, pFind gs a b = some i ∧ gs[i]? = some (.mk a b) := by
  cases hf : pFind gs a b with
  | none =>
    rw [pFind, List.findIdx?_eq_none_iff] at hf
    have := hf _ h
    simp at this
  | some i =>
    refine ⟨i, rfl, ?_⟩
    obtain ⟨hi, hp, _⟩ := List.findIdx?_eq_some_iff_getElem.1 hf
    simp only [Bool.and_eq_true, beq_iff_eq] at hp
    rw [List.getElem?_eq_getElem hi]
    obtain ⟨h1, h2⟩ := hp
    cases hx : gs[i] with
    | mk c d =>
      rw [hx] at h1 h2
      exact congrArg some (by rw [← h1, ← h2])
theorem MK.below {nIn : Nat} {W W' : World} {base g : Nat} {vI vO : Value} {bs ba : Nat} {gs : List Gt} (h : MK nIn W base g vI vO bs ba gs) (hb : Below W.heap.size W W') : MK nIn W' base g vI vO bs ba gs := by
  obtain ⟨h1, ⟨vG, h2, h3⟩, ⟨D, h4, h5⟩, h6, h7⟩ := h
  exact ⟨h1, ⟨vG, blk_below h2 hb, Kd.R_below h3 hb⟩, ⟨D, by obtain ⟨es, cl, e1, e2⟩ := h4; exact ⟨es, cl, blk_below e1 hb, e2⟩, h5⟩, h6, h7⟩
theorem MKeep.of_below {W W' : World} {base : Nat} (bs : Nat) (hb : Below W.heap.size W W') (hw : base ≤ W.heap.size) : MKeep base bs W W' := ⟨hb.mono hw, fun _ _ ho _ _ => blk_below ho hb⟩
def and_T10 : Bool × List (List Nat × List Nat) := (true, [([], []), ([], []), ([1], [1]), ([2], [2]), ([3], [3]), ([4], [4]), ([], []), ([6], [6]), ([5, 7], [5, 7]), ([0, 0, 1, 2, 3, 4, 5, 6, 7, 8], [0]), ([9, 0, 1, 2, 3, 4, 5, 6, 7, 8], [9]), ([10, 0, 1, 2, 3, 4, 5, 6, 7, 8], [10]), ([11, 8, 8, 0, 1, 2, 3, 4, 5, 6, 7, 8], [8, 11])])
def and_B10 : List Nat := [0, 0, 2, 6, 14, 30, 0, 64, 254, 511, 1023, 2047, 4095]
theorem and_tab10 : rtab .any (opsOf Tryd.f66 10) = and_T10 := by kernel_rfl
theorem and_bits10 : waitsOk and_T10.2 and_B10 = true := by kernel_rfl
def and_T12 : Bool × List (List Nat × List Nat) := (true, [([], []), ([0], [0]), ([1], [1]), ([2], [2]), ([], []), ([], []), ([3, 4, 5, 0, 1, 2, 3, 4, 5], [3, 4, 5])])
def and_B12 : List Nat := [0, 1, 3, 7, 0, 0, 63]
theorem and_tab12 : rtab .any (opsOf Tryd.f66 12) = and_T12 := by kernel_rfl
theorem and_bits12 : waitsOk and_T12.2 and_B12 = true := by kernel_rfl
theorem infoG : (Tryd.prog.info? 49).map (fun i => (i.zero, i.size, i.bytes)) = some (some (.agg #[.int .i64 0, .int .i64 0]), 2, 16) := by kernel_rfl
set_option maxRecDepth 100000 in
/-- The look-up of a gate, however many draws on. -/
theorem lookG {W : World} {bs n : Nat} {D : DataW Unit} {a b : Int} (h : W.ownsMap Tryd.prog 49 (plainElem Tryd.prog 3) bs n D) (ha : (Lit.int .i64 a).wf = true) (hb : (Lit.int .i64 b).wf = true) :
    ∃ c : Int, Aside0 (D.atKey (kyG a b) (.lit (.int .i64 0)) = .lit (.int .i64 c)) ∧ ∀ m, (Instr.lookup 67 (.map (some bs)) (.agg #[.int .i64 a, .int .i64 b]) true).run Tryd.prog (W.drewN m) = .ok (.tuple #[.int .i64 c, .bool (has D (kyG a b))]) (W.drewN m) := by
  have key : ∀ m, ∃ c : Int, D.atKey (kyG a b) (.lit (.int .i64 0)) = .lit (.int .i64 c) ∧ (Instr.lookup 67 (.map (some bs)) (.agg #[.int .i64 a, .int .i64 b]) true).run Tryd.prog (W.drewN m) = .ok (.tuple #[.int .i64 c, .bool (has D (kyG a b))]) (W.drewN m) := fun m => by
    have hm : (W.drewN m).ownsMap Tryd.prog 49 (plainElem Tryd.prog 3) bs n D := h
    obtain ⟨v, ps, hrun, hv⟩ := hm.look_ok keyedG Tryd.underlying67 (z := .int .i64 0) (by rfl) (plainElem_int Tryd.underlying3 q33_) (keyG a b ha hb)
    obtain ⟨c, rfl, hc, _⟩ := plainElem_int_inv Tryd.underlying3 hv
    exact ⟨c, congrArg Prod.fst hc, hrun⟩
  obtain ⟨c, hc, _⟩ := key 0
  refine ⟨c, ⟨hc⟩, fun m => ?_⟩
  obtain ⟨c', hc', hr⟩ := key m
  rw [hc] at hc'
  injection hc' with hc'
  injection hc' with _ hc'
  rw [hc']
  exact hr
set_option maxRecDepth 100000 in
set_option maxHeartbeats 4000000 in
theorem and_le (nIn : Nat) (W : World) (base g : Nat) (vI vO : Value) (bs ba : Nat) (gs : List Gt) (a b : Int) (hM : MK nIn W base g vI vO bs ba gs) (hbW : base ≤ W.heap.size) (ha : (Lit.int .i64 a).wf = true) (hb : (Lit.int .i64 b).wf = true) (hlen : nIn + gs.length ≤ 1000000) (hab : a ≤ b) :
    Calls Tryd.prog 66 #[.pointer (some ⟨g, 0, none⟩), .int .i64 a, .int .i64 b] W fun e w' => e = .returned (.int .i64 (pAnd nIn gs a b).2) ∧ MK nIn w' base g vI vO bs ba (pAnd nIn gs a b).1 ∧ MKeep base bs W w' := by
  have HM := Aside0.mk hM
  have wlo : (Lit.int .i64 a).wf = true := ha
  have whi : (Lit.int .i64 b).wf = true := hb
  obtain ⟨⟨AI, cI, rfl⟩, ⟨vG, hg, hR⟩, ⟨D, hown, hgm⟩, hbg, hbm⟩ := hM
  have q0 := (blk_cell hg 0).trans (show _ = some (Value.slice AI nIn cI) from rfl)
  have q1 := (blk_cell hg 1).trans (show _ = some vG from rfl)
  have q3 := (blk_cell hg 3).trans (show _ = some (Value.map (some bs)) from rfl)
  have hmin : min a b = a := by omega
  have hmax : max a b = b := by omega
  have hpA : pAnd nIn gs a b = pAnd2 nIn gs a b := by rw [pAnd, hmin, hmax]
  rw [hpA]
  obtain ⟨r, hr⟩ : ∃ r, r = pAnd2 nIn gs a b := ⟨_, rfl⟩
  rw [← hr]
  have HP := Aside0.mk hr
  clear hpA hr
  have HG := Aside0.mk hg
  have HR := Aside0.mk hR
  have HOWN := Aside0.mk hown
  have HGM := Aside0.mk hgm
  have HLEN := Aside0.mk hlen
  have HBW := Aside0.mk hbW
  clear hg hR hown hgm hmin hmax hlen hbW
  go_enter Tryd.func66, Tryd.ntmps66
  have hmn : (if b < a then b else a) = a := by split <;> omega
  have hmx : (if a < b then b else a) = b := by split <;> omega
  by_cases h0 : a = 0
  · have HX := Aside0.mk h0
    have hb0 : (a == 0) = true := by simp [h0]
    clear h0
    go_wp2
    go_ret
    rw [HP.out, pAnd2, if_pos HX.out]
    exact ⟨rfl, HM.out, MKeep.refl _ _ _⟩
  · have H0 := Aside0.mk h0
    have hb0 : (a == 0) = false := by simp [h0]
    clear h0
    by_cases h1 : Go.bits .xor .i64 a 1 = b
    · have HX := Aside0.mk h1
      have hb1 : (Go.bits .xor .i64 a 1 == b) = true := by simp [h1]
      clear h1
      go_wp2
      go_ret
      rw [HP.out, pAnd2, if_neg H0.out, if_pos HX.out]
      exact ⟨rfl, HM.out, MKeep.refl _ _ _⟩
    · have H1 := Aside0.mk h1
      have hb1 : (Go.bits .xor .i64 a 1 == b) = false := by simp [h1]
      clear h1
      by_cases h2 : a = 1
      · have HX := Aside0.mk h2
        have hb2 : (a == 1) = true := by simp [h2]
        clear h2
        go_wp2
        go_ret
        rw [HP.out, pAnd2, if_neg H0.out, if_neg H1.out, if_pos HX.out]
        exact ⟨rfl, HM.out, MKeep.refl _ _ _⟩
      · have H2 := Aside0.mk h2
        have hb2 : (a == 1) = false := by simp [h2]
        clear h2
        by_cases h3 : a = b
        · have HX := Aside0.mk h3
          have hb3 : (a == b) = true := by simp [h3]
          clear h3
          go_wp2
          go_ret
          rw [HP.out, pAnd2, if_neg H0.out, if_neg H1.out, if_neg H2.out, if_pos HX.out]
          exact ⟨rfl, HM.out, MKeep.refl _ _ _⟩
        · have H3 := Aside0.mk h3
          have hb3 : (a == b) = false := by simp [h3]
          clear h3
          rw [pAnd2, if_neg H0.out, if_neg H1.out, if_neg H2.out, if_neg H3.out] at HP
          go_wp2
          obtain ⟨W1, hW1⟩ : ∃ W1, W1 = W.alloc (.cells #[.int .i64 a, .int .i64 b] 49) := ⟨_, rfl⟩
          have z1 : W1.heap.size = W.heap.size + 1 := by rw [hW1]; simp
          have bx1 : W1.heap[W.heap.size]? = some (.cells #[.int .i64 a, .int .i64 b] 49 (0, 0)) := by rw [hW1]; exact blk_new W _
          have hg1 : W1.heap[g]? = some (.cells #[.slice AI nIn cI, vG, vO, .map (some bs), .map (some ba)] 70 (0, 0)) := by rw [hW1]; exact blk_alloc HG.out _
          have hown1 : W1.ownsMap Tryd.prog 49 (plainElem Tryd.prog 3) bs gs.length D := by rw [hW1]; exact HOWN.out.alloc _
          have hR1 : k49.R 49 W1 base (fun _ => True) vG gs := by rw [hW1]; exact Kd.R_below HR.out (below_alloc (Below.refl _ _) _)
          have hk1 : MKeep base bs W W1 := ⟨by rw [hW1]; exact (Below.refl base W).alloc HBW.out _, fun k o ho _ _ => by rw [hW1]; exact blk_alloc ho _⟩
          have hbW1 : Below W.heap.size W W1 := by rw [hW1]; exact below_alloc (Below.refl _ _) _
          rw [← hW1]
          clear hW1 q0 q1 q3
          have q0 := (blk_cell hg1 0).trans (show _ = some (Value.slice AI nIn cI) from rfl)
          have q1 := (blk_cell hg1 1).trans (show _ = some vG from rfl)
          have q3 := (blk_cell hg1 3).trans (show _ = some (Value.map (some bs)) from rfl)
          have y0 := (blk_cell bx1 0).trans (show _ = some (Value.int .i64 a) from rfl)
          have y1 := (blk_cell bx1 1).trans (show _ = some (Value.int .i64 b) from rfl)
          have hglt : g < W.heap.size := blk_lt HG.out
          have hkey := keyG a b wlo whi
          obtain ⟨c, HC, hrun⟩ := lookG hown1 wlo whi
          have HG1 := Aside0.mk hg1
          have HO1 := Aside0.mk hown1
          have HR1 := Aside0.mk hR1
          have HK1 := Aside0.mk hk1
          have HX1 := Aside0.mk bx1
          have HKEY := Aside0.mk hkey
          clear hg1 hown1 hR1 hk1 bx1 hkey
          obtain ⟨hd, hhd⟩ : ∃ h, h = has D (kyG a b) := ⟨_, rfl⟩
          rw [← hhd] at hrun
          have HH := Aside0.mk hhd
          clear hhd
          have hq : ∀ nq, Below W.heap.size W (W1.drewN nq) := fun nq => pw_below_drewN hbW1 nq
          have HQ := Aside0.mk hq
          clear hq
          cases hd with
          | true =>
            go_quiet (fail)
            go_wp2
            go_ret
            have hmem := (HGM.out.mem a b wlo whi).1 HH.out.symm
            obtain ⟨i, hf, hi⟩ := pFind_some hmem
            have hci := HC.out
            rw [HGM.out.at_ i _ hi] at hci
            injection hci with hci
            injection hci with _ hci
            rw [HP.out, hf]
            exact ⟨by rw [← hci]; rfl, HM.out.below (HQ.out _), MKeep.of_below bs (HQ.out _) HBW.out⟩
          | false =>
            go_quiet (fail)
            go_wp2
            obtain ⟨wq, hwq⟩ : ∃ w, w = W1.drewN nq := ⟨_, rfl⟩
            have BGq : wq.heap[g]? = some (.cells #[.slice AI nIn cI, vG, vO, .map (some bs), .map (some ba)] 70 (0, 0)) := by rw [hwq]; exact blk_drewN HG1.out _
            have BXq : wq.heap[W.heap.size]? = some (.cells #[.int .i64 a, .int .i64 b] 49 (0, 0)) := by rw [hwq]; exact blk_drewN HX1.out _
            have HRq : k49.R 49 wq base (fun _ => True) vG gs := by rw [hwq]; exact Kd.R_below HR1.out (pw_below_drewN (Below.refl _ _) _)
            have HOq : wq.ownsMap Tryd.prog 49 (plainElem Tryd.prog 3) bs gs.length D := by rw [hwq]; exact HO1.out
            have HBq : Below W.heap.size W wq := by rw [hwq]; exact HQ.out _
            rw [← hwq]
            have BGd := Aside0.mk (blk_drew BGq)
            have BXd := Aside0.mk (blk_drew BXq)
            have HRd := Aside0.mk (Kd.R_drew HRq)
            have HOd := Aside0.mk HOq.drew
            have HBd := Aside0.mk (below_drew1 HBq)
            clear hwq BGq BXq HRq HOq HBq q0 q1 q3 y0 y1 hrun
            refine start_ (n := 13) (S := fun w' => w'.cell? ⟨g, 1, none⟩ = some vG ∧ w'.cell? ⟨W.heap.size, 0, none⟩ = some (.int .i64 a) ∧ w'.cell? ⟨W.heap.size, 1, none⟩ = some (.int .i64 b)) (ds := [12]) #[false, false, false, false, false, false, false, false, false, false, false, false, false] q28_ rfl rfl ⟨(blk_cell BGd.out 1).trans rfl, (blk_cell BXd.out 0).trans rfl, (blk_cell BXd.out 1).trans rfl⟩ (fun hHeld => ?_); refine with_tabW and_tab10 and_bits10 (fun HT_ HW_ => ?_)
            generalize wq.drew = wd at BGd BXd HRd HOd HBd hHeld ⊢
            refine pz_ (i := 0) (N := some 49) (h := ?_)
            refine pz_ (i := 1) (N := some 50) (h := ?_)
            refine pz_ (i := 2) (N := some 51) (h := ?_)
            refine pz_ (i := 3) (N := some 52) (h := ?_)
            refine pz_ (i := 4) (N := some 53) (h := ?_)
            refine tz_ (i := 5) (N := some 54) (h := ?_)
            refine tz_ (i := 6) (N := some 55) (h := ?_)
            refine nz_ (i := 7) (N := some 56) (h := fun K hK => ?_)
            refine vz_ (h := ?_)
            refine hK.out _ _ ⟨(blk_cell (blk_alloc BGd.out _) 1).trans rfl, (blk_cell (blk_alloc BXd.out _) 0).trans rfl, (blk_cell (blk_alloc BXd.out _) 1).trans rfl⟩ (fun hHeld => ?_)
            clear hK K
            refine mz_ (some 56) (h := ?_)
            refine nz_ (i := 8) (N := some 57) (h := fun K hK => ?_)
            refine Kd.R_append_step k49 (w0 := W) base (by rfl) (.tmp 54) (.tmp 56) 29 49 (.agg #[.int .i64 0, .int .i64 0]) 16 rfl Tryd.underlying29 infoG rfl q33_ q33_ vG gs (.mk a b) [.int .i64 a, .int .i64 b] (fun _ => True) (fun _ => False) rfl rfl ?aP (fun _ hk => hk.elim) ?aF ?aO ?aB ?aS ?aL ?_
            (case aP => exact k49_mkM _ _ _ _)
            (case aF => exact (fun _ _ => trivial))
            (case aO => exact HRd.out)
            (case aB => exact HBd.out.mono HBW.out)
            (case aS => exact Nat.le_trans HBW.out HBd.out.size)
            (case aL => have := HLEN.out; omega)
            intro v9 w9 ho hb hg hat
            obtain ⟨A9, c9, ev9⟩ := Kd.R_slice ho
            subst ev9
            have hneG : some g ≠ vG.ownBlock := Kd.R_ne HRd.out BGd.out q33_
            have BG9 := Aside0.mk (blk_grown BGd.out hg hneG)
            have BX9 := Aside0.mk (show w9.heap[W.heap.size]? = some (.cells #[.int .i64 a, .int .i64 b] 49 (0, 0)) from blk_grown BXd.out hg (fun he => by obtain ⟨inner, ho2⟩ := Kd.R_own HR.out; have := own_lt ho2 _ he.symm; omega))
            have HO9 := Aside0.mk (HOd.out.kept hg (own_notG HRd.out HOd.out))
            have HB9 := Aside0.mk hb
            have HR9 := Aside0.mk ho
            have HG9 := Aside0.mk hg
            clear ho hb hg hat hneG
            refine hK.out _ _ ⟨(blk_cell BG9.out 1).trans rfl, (blk_cell BX9.out 0).trans rfl, (blk_cell BX9.out 1).trans rfl⟩ (fun hHeld => ?_)
            clear hK K
            refine mz_ (some 57) (h := ?_)
            refine pz_ (i := 9) (N := some 58) (h := ?_)
            refine pz_ (i := 10) (N := some 59) (h := ?_)
            refine pz_ (i := 11) (N := some 60) (h := ?_)
            refine last_ (i := 12) (N := none) #[true, true, true, true, true, true, true, true, true, true, true, true, true] rfl rfl (one_of HT_.out q28_) q33_ (fun K hK => ?_)
            have hc9 : w9.cell? ⟨g, 1, none⟩ = some vG := (blk_cell BG9.out 1).trans rfl
            have hf9 := blk_frozen BG9.out 1
            have hl9 := blk_lt BG9.out
            refine skip_ (w1 := ?_) (by rfl) rfl ?_ ?_
            rotate_left
            · go_simp
              rfl
            refine hK.out _ _ ?_
            clear hK K
            refine done_ (done_of HT_.out q28_) ?_
            obtain ⟨wr, hwr⟩ : ∃ w, w = w9.setCell ⟨g, 1, none⟩ (.slice A9 (gs.length + 1) c9) := ⟨_, rfl⟩
            rw [← hwr]
            have hgX : g ≠ W.heap.size := by omega
            have BGr : wr.heap[g]? = some (.cells #[.slice AI nIn cI, .slice A9 (gs.length + 1) c9, vO, .map (some bs), .map (some ba)] 70 (0, 0)) := by rw [hwr]; have z := blk_set BG9.out 1 (.slice A9 (gs.length + 1) c9); simpa using z
            have BXr : wr.heap[W.heap.size]? = some (.cells #[.int .i64 a, .int .i64 b] 49 (0, 0)) := by rw [hwr]; exact blk_far BX9.out (show W.heap.size ≠ g by omega) _
            have HRr : k49.R 49 wr base (fun _ => True) (.slice A9 (gs.length + 1) c9) (gs ++ [.mk a b]) := by rw [hwr]; have z := Kd.R_set HR9.out BG9.out q33_ 1 (.slice A9 (gs.length + 1) c9); simpa using z
            have HOr : wr.ownsMap Tryd.prog 49 (plainElem Tryd.prog 3) bs gs.length D := by rw [hwr]; exact HO9.out.kept (grownBy_setCellAt w9 g 1 _) (fun e => by have := Option.some.inj e; subst this; obtain ⟨_, _, hb, _⟩ := HO9.out; rw [BG9.out] at hb; cases hb)
            have q0 := (blk_cell BGr 0).trans (show _ = some (Value.slice AI nIn cI) from rfl)
            have q1 := (blk_cell BGr 1).trans (show _ = some (Value.slice A9 (gs.length + 1) c9) from rfl)
            have q3 := (blk_cell BGr 3).trans (show _ = some (Value.map (some bs)) from rfl)
            have HWR := Aside0.mk hwr
            have HGr := Aside0.mk BGr
            have HXr := Aside0.mk BXr
            have HRr := Aside0.mk HRr
            have HOr := Aside0.mk HOr
            clear hwr BGr BXr
            go_wp2
            go_quiet (fail)
            have hl : wrap64 (2 * wrap64 ((nIn : Int) + ((gs.length : Int) + 1))) = ((2 * (nIn + gs.length + 1) : Nat) : Int) := len_wrap _ _ HLEN.out
            rw [hl]
            obtain ⟨V, hV⟩ : ∃ V : Int, V = ((2 * (nIn + gs.length + 1) : Nat) : Int) := ⟨_, rfl⟩
            rw [← hV]
            have HVW := Aside0.mk (show (Lit.int .i64 V).wf = true by rw [hV, ← hl]; exact wrap64_wf _)
            have HV := Aside0.mk hV
            clear hl hV
            obtain ⟨wt, hwt⟩ : ∃ w, w = wr.drewN nq := ⟨_, rfl⟩
            have BGt : wt.heap[g]? = some (.cells #[.slice AI nIn cI, .slice A9 (gs.length + 1) c9, vO, .map (some bs), .map (some ba)] 70 (0, 0)) := by rw [hwt]; exact blk_drewN HGr.out _
            have BXt : wt.heap[W.heap.size]? = some (.cells #[.int .i64 a, .int .i64 b] 49 (0, 0)) := by rw [hwt]; exact blk_drewN HXr.out _
            have HRt : k49.R 49 wt base (fun _ => True) (.slice A9 (gs.length + 1) c9) (gs ++ [.mk a b]) := by rw [hwt]; exact Kd.R_below HRr.out (pw_below_drewN (Below.refl _ _) _)
            have HOt : wt.ownsMap Tryd.prog 49 (plainElem Tryd.prog 3) bs gs.length D := by rw [hwt]; exact HOr.out
            rw [← hwt]
            have HWT := Aside0.mk hwt
            go_wp2
            have BGu := Aside0.mk (blk_drew BGt)
            have BXu := Aside0.mk (blk_drew BXt)
            have HRu := Aside0.mk (Kd.R_drew HRt)
            have HOu := Aside0.mk HOt.drew
            have HWU := Aside0.mk (show wt.drew = (wr.drewN nq).drew by rw [hwt])
            clear hwt BGt BXt HRt HOt q0 q1 q3
            refine start_ (n := 7) (S := fun w' => w'.cell? ⟨g, 3, none⟩ = some (.map (some bs)) ∧ w'.cell? ⟨W.heap.size, 0, none⟩ = some (.int .i64 a) ∧ w'.cell? ⟨W.heap.size, 1, none⟩ = some (.int .i64 b)) (ds := [6]) #[false, false, false, false, false, false, false] q28_ rfl rfl ⟨(blk_cell BGu.out 3).trans rfl, (blk_cell BXu.out 0).trans rfl, (blk_cell BXu.out 1).trans rfl⟩ (fun hHeld => ?_); refine with_tabW and_tab12 and_bits12 (fun HT_ HW_ => ?_)
            generalize wt.drew = wu at BGu BXu HRu HOu hHeld HWU ⊢
            refine pz_ (i := 0) (N := some 75) (h := ?_)
            refine pz_ (i := 1) (N := some 76) (h := ?_)
            refine pz_ (i := 2) (N := some 77) (h := ?_)
            refine tz_ (i := 3) (N := some 78) (h := ?_)
            refine tz_ (i := 4) (N := some 79) (h := ?_)
            refine pz_ (i := 5) (N := some 80) (h := ?_)
            refine last_ (i := 6) (N := none) #[true, true, true, true, true, true, true] rfl rfl (one_of HT_.out q28_) q33_ (fun K hK => ?_)
            obtain ⟨w8, hrun8, hown8, hg8⟩ := HOu.out.update keyedG Tryd.underlying67 (show gs.length < maxLen by have := HLEN.out; unfold maxLen; omega) HKEY.out (plainElem_int Tryd.underlying3 HVW.out)
            refine skip_ (w1 := w8) (by rfl) rfl ?_ ?_
            · go_simp
            refine hK.out _ _ ?_
            clear hK K
            refine done_ (done_of HT_.out q28_) ?_
            have HG8 := Aside0.mk hg8
            have HO8 := Aside0.mk hown8
            clear hg8 hown8 hrun8
            go_wp2
            go_ret
            have hmapu : ∀ o, wu.heap[bs]? = some o → o.isCells = false := fun o ho => by obtain ⟨_, _, h, _⟩ := HOu.out; rw [h] at ho; cases ho; rfl
            have hgb : g ≠ bs := fun e => by have h := hmapu _ (e ▸ BGu.out); cases h
            have hfn : pFind gs a b = none := pFind_none (fun hm => by have h := (HGM.out.mem a b wlo whi).2 hm; rw [← HH.out] at h; cases h)
            have hv : V = 2 * ((nIn + gs.length + 1 : Nat) : Int) := by rw [HV.out]; omega
            have hs9 : base ≤ w9.heap.size := Nat.le_trans HBW.out (Nat.le_trans HBd.out.size HG9.out.size)
            have hsr : wr.heap.size = w9.heap.size := by rw [HWR.out]; simp [World.setCell]
            have hbu : Below wr.heap.size wr wu := by rw [HWU.out]; exact below_drew (pw_below_drewN (Below.refl _ _) _)
            have k1 := MKeep.of_below bs HBd.out HBW.out
            have k2 : MKeep base bs wd w9 := MKeep.grown HG9.out (Nat.le_trans HBW.out HBd.out.size) (fun k e => by obtain ⟨_, ho⟩ := Kd.R_own HRd.out; exact own_base ho k e) (fun k e => by obtain ⟨_, ho⟩ := Kd.R_own HRd.out; obtain ⟨cs, hc⟩ := own_typed ho k e; exact .inr ⟨cs, _, _, hc, .inl rfl⟩)
            have k3 : MKeep base bs w9 wr := by rw [HWR.out]; exact MKeep.grown (grownBy_setCellAt w9 g 1 _) hs9 (fun k e => by have := Option.some.inj e; omega) (fun k e => by have h := Option.some.inj e; subst h; exact .inr ⟨_, _, _, BG9.out, .inr rfl⟩)
            have k4 := MKeep.of_below bs hbu (by rw [hsr]; exact hs9)
            have k5 : MKeep base bs wu w8 := MKeep.grown HG8.out (Nat.le_trans (by rw [hsr]; exact hs9) hbu.size) (fun k e => by have := Option.some.inj e; omega) (fun k e => .inl (Option.some.inj e).symm)
            rw [HP.out, hfn]
            refine ⟨by rw [← hv]; rfl, ⟨⟨AI, cI, rfl⟩, ⟨_, blk_grown BGu.out HG8.out (fun e => hgb (Option.some.inj e)), R_besideG HRu.out HG8.out hmapu⟩, ⟨_, ?_, HGM.out.put a b wlo whi HH.out.symm⟩, hbg, hbm⟩, (((k1.trans k2).trans k3).trans k4).trans k5⟩
            have h8 := HO8.out
            rw [hv] at h8
            rw [List.length_append]
            exact h8
set_option maxRecDepth 100000 in
set_option maxHeartbeats 4000000 in
theorem and_ge (nIn : Nat) (W : World) (base g : Nat) (vI vO : Value) (bs ba : Nat) (gs : List Gt) (a b : Int) (hM : MK nIn W base g vI vO bs ba gs) (hbW : base ≤ W.heap.size) (ha : (Lit.int .i64 a).wf = true) (hb : (Lit.int .i64 b).wf = true) (hlen : nIn + gs.length ≤ 1000000) (hab : b ≤ a) :
    Calls Tryd.prog 66 #[.pointer (some ⟨g, 0, none⟩), .int .i64 a, .int .i64 b] W fun e w' => e = .returned (.int .i64 (pAnd nIn gs a b).2) ∧ MK nIn w' base g vI vO bs ba (pAnd nIn gs a b).1 ∧ MKeep base bs W w' := by
  have HM := Aside0.mk hM
  have wlo : (Lit.int .i64 b).wf = true := hb
  have whi : (Lit.int .i64 a).wf = true := ha
  obtain ⟨⟨AI, cI, rfl⟩, ⟨vG, hg, hR⟩, ⟨D, hown, hgm⟩, hbg, hbm⟩ := hM
  have q0 := (blk_cell hg 0).trans (show _ = some (Value.slice AI nIn cI) from rfl)
  have q1 := (blk_cell hg 1).trans (show _ = some vG from rfl)
  have q3 := (blk_cell hg 3).trans (show _ = some (Value.map (some bs)) from rfl)
  have hmin : min a b = b := by omega
  have hmax : max a b = a := by omega
  have hpA : pAnd nIn gs a b = pAnd2 nIn gs b a := by rw [pAnd, hmin, hmax]
  rw [hpA]
  obtain ⟨r, hr⟩ : ∃ r, r = pAnd2 nIn gs b a := ⟨_, rfl⟩
  rw [← hr]
  have HP := Aside0.mk hr
  clear hpA hr
  have HG := Aside0.mk hg
  have HR := Aside0.mk hR
  have HOWN := Aside0.mk hown
  have HGM := Aside0.mk hgm
  have HLEN := Aside0.mk hlen
  have HBW := Aside0.mk hbW
  clear hg hR hown hgm hmin hmax hlen hbW
  go_enter Tryd.func66, Tryd.ntmps66
  have hmn : (if b < a then b else a) = b := by split <;> omega
  have hmx : (if a < b then b else a) = a := by split <;> omega
  by_cases h0 : b = 0
  · have HX := Aside0.mk h0
    have hb0 : (b == 0) = true := by simp [h0]
    clear h0
    go_wp2
    go_ret
    rw [HP.out, pAnd2, if_pos HX.out]
    exact ⟨rfl, HM.out, MKeep.refl _ _ _⟩
  · have H0 := Aside0.mk h0
    have hb0 : (b == 0) = false := by simp [h0]
    clear h0
    by_cases h1 : Go.bits .xor .i64 b 1 = a
    · have HX := Aside0.mk h1
      have hb1 : (Go.bits .xor .i64 b 1 == a) = true := by simp [h1]
      clear h1
      go_wp2
      go_ret
      rw [HP.out, pAnd2, if_neg H0.out, if_pos HX.out]
      exact ⟨rfl, HM.out, MKeep.refl _ _ _⟩
    · have H1 := Aside0.mk h1
      have hb1 : (Go.bits .xor .i64 b 1 == a) = false := by simp [h1]
      clear h1
      by_cases h2 : b = 1
      · have HX := Aside0.mk h2
        have hb2 : (b == 1) = true := by simp [h2]
        clear h2
        go_wp2
        go_ret
        rw [HP.out, pAnd2, if_neg H0.out, if_neg H1.out, if_pos HX.out]
        exact ⟨rfl, HM.out, MKeep.refl _ _ _⟩
      · have H2 := Aside0.mk h2
        have hb2 : (b == 1) = false := by simp [h2]
        clear h2
        by_cases h3 : b = a
        · have HX := Aside0.mk h3
          have hb3 : (b == a) = true := by simp [h3]
          clear h3
          go_wp2
          go_ret
          rw [HP.out, pAnd2, if_neg H0.out, if_neg H1.out, if_neg H2.out, if_pos HX.out]
          exact ⟨rfl, HM.out, MKeep.refl _ _ _⟩
        · have H3 := Aside0.mk h3
          have hb3 : (b == a) = false := by simp [h3]
          clear h3
          rw [pAnd2, if_neg H0.out, if_neg H1.out, if_neg H2.out, if_neg H3.out] at HP
          go_wp2
          obtain ⟨W1, hW1⟩ : ∃ W1, W1 = W.alloc (.cells #[.int .i64 b, .int .i64 a] 49) := ⟨_, rfl⟩
          have z1 : W1.heap.size = W.heap.size + 1 := by rw [hW1]; simp
          have bx1 : W1.heap[W.heap.size]? = some (.cells #[.int .i64 b, .int .i64 a] 49 (0, 0)) := by rw [hW1]; exact blk_new W _
          have hg1 : W1.heap[g]? = some (.cells #[.slice AI nIn cI, vG, vO, .map (some bs), .map (some ba)] 70 (0, 0)) := by rw [hW1]; exact blk_alloc HG.out _
          have hown1 : W1.ownsMap Tryd.prog 49 (plainElem Tryd.prog 3) bs gs.length D := by rw [hW1]; exact HOWN.out.alloc _
          have hR1 : k49.R 49 W1 base (fun _ => True) vG gs := by rw [hW1]; exact Kd.R_below HR.out (below_alloc (Below.refl _ _) _)
          have hk1 : MKeep base bs W W1 := ⟨by rw [hW1]; exact (Below.refl base W).alloc HBW.out _, fun k o ho _ _ => by rw [hW1]; exact blk_alloc ho _⟩
          have hbW1 : Below W.heap.size W W1 := by rw [hW1]; exact below_alloc (Below.refl _ _) _
          rw [← hW1]
          clear hW1 q0 q1 q3
          have q0 := (blk_cell hg1 0).trans (show _ = some (Value.slice AI nIn cI) from rfl)
          have q1 := (blk_cell hg1 1).trans (show _ = some vG from rfl)
          have q3 := (blk_cell hg1 3).trans (show _ = some (Value.map (some bs)) from rfl)
          have y0 := (blk_cell bx1 0).trans (show _ = some (Value.int .i64 b) from rfl)
          have y1 := (blk_cell bx1 1).trans (show _ = some (Value.int .i64 a) from rfl)
          have hglt : g < W.heap.size := blk_lt HG.out
          have hkey := keyG b a wlo whi
          obtain ⟨c, HC, hrun⟩ := lookG hown1 wlo whi
          have HG1 := Aside0.mk hg1
          have HO1 := Aside0.mk hown1
          have HR1 := Aside0.mk hR1
          have HK1 := Aside0.mk hk1
          have HX1 := Aside0.mk bx1
          have HKEY := Aside0.mk hkey
          clear hg1 hown1 hR1 hk1 bx1 hkey
          obtain ⟨hd, hhd⟩ : ∃ h, h = has D (kyG b a) := ⟨_, rfl⟩
          rw [← hhd] at hrun
          have HH := Aside0.mk hhd
          clear hhd
          have hq : ∀ nq, Below W.heap.size W (W1.drewN nq) := fun nq => pw_below_drewN hbW1 nq
          have HQ := Aside0.mk hq
          clear hq
          cases hd with
          | true =>
            go_quiet (fail)
            go_wp2
            go_ret
            have hmem := (HGM.out.mem b a wlo whi).1 HH.out.symm
            obtain ⟨i, hf, hi⟩ := pFind_some hmem
            have hci := HC.out
            rw [HGM.out.at_ i _ hi] at hci
            injection hci with hci
            injection hci with _ hci
            rw [HP.out, hf]
            exact ⟨by rw [← hci]; rfl, HM.out.below (HQ.out _), MKeep.of_below bs (HQ.out _) HBW.out⟩
          | false =>
            go_quiet (fail)
            go_wp2
            obtain ⟨wq, hwq⟩ : ∃ w, w = W1.drewN nq := ⟨_, rfl⟩
            have BGq : wq.heap[g]? = some (.cells #[.slice AI nIn cI, vG, vO, .map (some bs), .map (some ba)] 70 (0, 0)) := by rw [hwq]; exact blk_drewN HG1.out _
            have BXq : wq.heap[W.heap.size]? = some (.cells #[.int .i64 b, .int .i64 a] 49 (0, 0)) := by rw [hwq]; exact blk_drewN HX1.out _
            have HRq : k49.R 49 wq base (fun _ => True) vG gs := by rw [hwq]; exact Kd.R_below HR1.out (pw_below_drewN (Below.refl _ _) _)
            have HOq : wq.ownsMap Tryd.prog 49 (plainElem Tryd.prog 3) bs gs.length D := by rw [hwq]; exact HO1.out
            have HBq : Below W.heap.size W wq := by rw [hwq]; exact HQ.out _
            rw [← hwq]
            have BGd := Aside0.mk (blk_drew BGq)
            have BXd := Aside0.mk (blk_drew BXq)
            have HRd := Aside0.mk (Kd.R_drew HRq)
            have HOd := Aside0.mk HOq.drew
            have HBd := Aside0.mk (below_drew1 HBq)
            clear hwq BGq BXq HRq HOq HBq q0 q1 q3 y0 y1 hrun
            refine start_ (n := 13) (S := fun w' => w'.cell? ⟨g, 1, none⟩ = some vG ∧ w'.cell? ⟨W.heap.size, 0, none⟩ = some (.int .i64 b) ∧ w'.cell? ⟨W.heap.size, 1, none⟩ = some (.int .i64 a)) (ds := [12]) #[false, false, false, false, false, false, false, false, false, false, false, false, false] q28_ rfl rfl ⟨(blk_cell BGd.out 1).trans rfl, (blk_cell BXd.out 0).trans rfl, (blk_cell BXd.out 1).trans rfl⟩ (fun hHeld => ?_); refine with_tabW and_tab10 and_bits10 (fun HT_ HW_ => ?_)
            generalize wq.drew = wd at BGd BXd HRd HOd HBd hHeld ⊢
            refine pz_ (i := 0) (N := some 49) (h := ?_)
            refine pz_ (i := 1) (N := some 50) (h := ?_)
            refine pz_ (i := 2) (N := some 51) (h := ?_)
            refine pz_ (i := 3) (N := some 52) (h := ?_)
            refine pz_ (i := 4) (N := some 53) (h := ?_)
            refine tz_ (i := 5) (N := some 54) (h := ?_)
            refine tz_ (i := 6) (N := some 55) (h := ?_)
            refine nz_ (i := 7) (N := some 56) (h := fun K hK => ?_)
            refine vz_ (h := ?_)
            refine hK.out _ _ ⟨(blk_cell (blk_alloc BGd.out _) 1).trans rfl, (blk_cell (blk_alloc BXd.out _) 0).trans rfl, (blk_cell (blk_alloc BXd.out _) 1).trans rfl⟩ (fun hHeld => ?_)
            clear hK K
            refine mz_ (some 56) (h := ?_)
            refine nz_ (i := 8) (N := some 57) (h := fun K hK => ?_)
            refine Kd.R_append_step k49 (w0 := W) base (by rfl) (.tmp 54) (.tmp 56) 29 49 (.agg #[.int .i64 0, .int .i64 0]) 16 rfl Tryd.underlying29 infoG rfl q33_ q33_ vG gs (.mk b a) [.int .i64 b, .int .i64 a] (fun _ => True) (fun _ => False) rfl rfl ?aP (fun _ hk => hk.elim) ?aF ?aO ?aB ?aS ?aL ?_
            (case aP => exact k49_mkM _ _ _ _)
            (case aF => exact (fun _ _ => trivial))
            (case aO => exact HRd.out)
            (case aB => exact HBd.out.mono HBW.out)
            (case aS => exact Nat.le_trans HBW.out HBd.out.size)
            (case aL => have := HLEN.out; omega)
            intro v9 w9 ho hb hg hat
            obtain ⟨A9, c9, ev9⟩ := Kd.R_slice ho
            subst ev9
            have hneG : some g ≠ vG.ownBlock := Kd.R_ne HRd.out BGd.out q33_
            have BG9 := Aside0.mk (blk_grown BGd.out hg hneG)
            have BX9 := Aside0.mk (show w9.heap[W.heap.size]? = some (.cells #[.int .i64 b, .int .i64 a] 49 (0, 0)) from blk_grown BXd.out hg (fun he => by obtain ⟨inner, ho2⟩ := Kd.R_own HR.out; have := own_lt ho2 _ he.symm; omega))
            have HO9 := Aside0.mk (HOd.out.kept hg (own_notG HRd.out HOd.out))
            have HB9 := Aside0.mk hb
            have HR9 := Aside0.mk ho
            have HG9 := Aside0.mk hg
            clear ho hb hg hat hneG
            refine hK.out _ _ ⟨(blk_cell BG9.out 1).trans rfl, (blk_cell BX9.out 0).trans rfl, (blk_cell BX9.out 1).trans rfl⟩ (fun hHeld => ?_)
            clear hK K
            refine mz_ (some 57) (h := ?_)
            refine pz_ (i := 9) (N := some 58) (h := ?_)
            refine pz_ (i := 10) (N := some 59) (h := ?_)
            refine pz_ (i := 11) (N := some 60) (h := ?_)
            refine last_ (i := 12) (N := none) #[true, true, true, true, true, true, true, true, true, true, true, true, true] rfl rfl (one_of HT_.out q28_) q33_ (fun K hK => ?_)
            have hc9 : w9.cell? ⟨g, 1, none⟩ = some vG := (blk_cell BG9.out 1).trans rfl
            have hf9 := blk_frozen BG9.out 1
            have hl9 := blk_lt BG9.out
            refine skip_ (w1 := ?_) (by rfl) rfl ?_ ?_
            rotate_left
            · go_simp
              rfl
            refine hK.out _ _ ?_
            clear hK K
            refine done_ (done_of HT_.out q28_) ?_
            obtain ⟨wr, hwr⟩ : ∃ w, w = w9.setCell ⟨g, 1, none⟩ (.slice A9 (gs.length + 1) c9) := ⟨_, rfl⟩
            rw [← hwr]
            have hgX : g ≠ W.heap.size := by omega
            have BGr : wr.heap[g]? = some (.cells #[.slice AI nIn cI, .slice A9 (gs.length + 1) c9, vO, .map (some bs), .map (some ba)] 70 (0, 0)) := by rw [hwr]; have z := blk_set BG9.out 1 (.slice A9 (gs.length + 1) c9); simpa using z
            have BXr : wr.heap[W.heap.size]? = some (.cells #[.int .i64 b, .int .i64 a] 49 (0, 0)) := by rw [hwr]; exact blk_far BX9.out (show W.heap.size ≠ g by omega) _
            have HRr : k49.R 49 wr base (fun _ => True) (.slice A9 (gs.length + 1) c9) (gs ++ [.mk b a]) := by rw [hwr]; have z := Kd.R_set HR9.out BG9.out q33_ 1 (.slice A9 (gs.length + 1) c9); simpa using z
            have HOr : wr.ownsMap Tryd.prog 49 (plainElem Tryd.prog 3) bs gs.length D := by rw [hwr]; exact HO9.out.kept (grownBy_setCellAt w9 g 1 _) (fun e => by have := Option.some.inj e; subst this; obtain ⟨_, _, hb, _⟩ := HO9.out; rw [BG9.out] at hb; cases hb)
            have q0 := (blk_cell BGr 0).trans (show _ = some (Value.slice AI nIn cI) from rfl)
            have q1 := (blk_cell BGr 1).trans (show _ = some (Value.slice A9 (gs.length + 1) c9) from rfl)
            have q3 := (blk_cell BGr 3).trans (show _ = some (Value.map (some bs)) from rfl)
            have HWR := Aside0.mk hwr
            have HGr := Aside0.mk BGr
            have HXr := Aside0.mk BXr
            have HRr := Aside0.mk HRr
            have HOr := Aside0.mk HOr
            clear hwr BGr BXr
            go_wp2
            go_quiet (fail)
            have hl : wrap64 (2 * wrap64 ((nIn : Int) + ((gs.length : Int) + 1))) = ((2 * (nIn + gs.length + 1) : Nat) : Int) := len_wrap _ _ HLEN.out
            rw [hl]
            obtain ⟨V, hV⟩ : ∃ V : Int, V = ((2 * (nIn + gs.length + 1) : Nat) : Int) := ⟨_, rfl⟩
            rw [← hV]
            have HVW := Aside0.mk (show (Lit.int .i64 V).wf = true by rw [hV, ← hl]; exact wrap64_wf _)
            have HV := Aside0.mk hV
            clear hl hV
            obtain ⟨wt, hwt⟩ : ∃ w, w = wr.drewN nq := ⟨_, rfl⟩
            have BGt : wt.heap[g]? = some (.cells #[.slice AI nIn cI, .slice A9 (gs.length + 1) c9, vO, .map (some bs), .map (some ba)] 70 (0, 0)) := by rw [hwt]; exact blk_drewN HGr.out _
            have BXt : wt.heap[W.heap.size]? = some (.cells #[.int .i64 b, .int .i64 a] 49 (0, 0)) := by rw [hwt]; exact blk_drewN HXr.out _
            have HRt : k49.R 49 wt base (fun _ => True) (.slice A9 (gs.length + 1) c9) (gs ++ [.mk b a]) := by rw [hwt]; exact Kd.R_below HRr.out (pw_below_drewN (Below.refl _ _) _)
            have HOt : wt.ownsMap Tryd.prog 49 (plainElem Tryd.prog 3) bs gs.length D := by rw [hwt]; exact HOr.out
            rw [← hwt]
            have HWT := Aside0.mk hwt
            go_wp2
            have BGu := Aside0.mk (blk_drew BGt)
            have BXu := Aside0.mk (blk_drew BXt)
            have HRu := Aside0.mk (Kd.R_drew HRt)
            have HOu := Aside0.mk HOt.drew
            have HWU := Aside0.mk (show wt.drew = (wr.drewN nq).drew by rw [hwt])
            clear hwt BGt BXt HRt HOt q0 q1 q3
            refine start_ (n := 7) (S := fun w' => w'.cell? ⟨g, 3, none⟩ = some (.map (some bs)) ∧ w'.cell? ⟨W.heap.size, 0, none⟩ = some (.int .i64 b) ∧ w'.cell? ⟨W.heap.size, 1, none⟩ = some (.int .i64 a)) (ds := [6]) #[false, false, false, false, false, false, false] q28_ rfl rfl ⟨(blk_cell BGu.out 3).trans rfl, (blk_cell BXu.out 0).trans rfl, (blk_cell BXu.out 1).trans rfl⟩ (fun hHeld => ?_); refine with_tabW and_tab12 and_bits12 (fun HT_ HW_ => ?_)
            generalize wt.drew = wu at BGu BXu HRu HOu hHeld HWU ⊢
            refine pz_ (i := 0) (N := some 75) (h := ?_)
            refine pz_ (i := 1) (N := some 76) (h := ?_)
            refine pz_ (i := 2) (N := some 77) (h := ?_)
            refine tz_ (i := 3) (N := some 78) (h := ?_)
            refine tz_ (i := 4) (N := some 79) (h := ?_)
            refine pz_ (i := 5) (N := some 80) (h := ?_)
            refine last_ (i := 6) (N := none) #[true, true, true, true, true, true, true] rfl rfl (one_of HT_.out q28_) q33_ (fun K hK => ?_)
            obtain ⟨w8, hrun8, hown8, hg8⟩ := HOu.out.update keyedG Tryd.underlying67 (show gs.length < maxLen by have := HLEN.out; unfold maxLen; omega) HKEY.out (plainElem_int Tryd.underlying3 HVW.out)
            refine skip_ (w1 := w8) (by rfl) rfl ?_ ?_
            · go_simp
            refine hK.out _ _ ?_
            clear hK K
            refine done_ (done_of HT_.out q28_) ?_
            have HG8 := Aside0.mk hg8
            have HO8 := Aside0.mk hown8
            clear hg8 hown8 hrun8
            go_wp2
            go_ret
            have hmapu : ∀ o, wu.heap[bs]? = some o → o.isCells = false := fun o ho => by obtain ⟨_, _, h, _⟩ := HOu.out; rw [h] at ho; cases ho; rfl
            have hgb : g ≠ bs := fun e => by have h := hmapu _ (e ▸ BGu.out); cases h
            have hfn : pFind gs b a = none := pFind_none (fun hm => by have h := (HGM.out.mem b a wlo whi).2 hm; rw [← HH.out] at h; cases h)
            have hv : V = 2 * ((nIn + gs.length + 1 : Nat) : Int) := by rw [HV.out]; omega
            have hs9 : base ≤ w9.heap.size := Nat.le_trans HBW.out (Nat.le_trans HBd.out.size HG9.out.size)
            have hsr : wr.heap.size = w9.heap.size := by rw [HWR.out]; simp [World.setCell]
            have hbu : Below wr.heap.size wr wu := by rw [HWU.out]; exact below_drew (pw_below_drewN (Below.refl _ _) _)
            have k1 := MKeep.of_below bs HBd.out HBW.out
            have k2 : MKeep base bs wd w9 := MKeep.grown HG9.out (Nat.le_trans HBW.out HBd.out.size) (fun k e => by obtain ⟨_, ho⟩ := Kd.R_own HRd.out; exact own_base ho k e) (fun k e => by obtain ⟨_, ho⟩ := Kd.R_own HRd.out; obtain ⟨cs, hc⟩ := own_typed ho k e; exact .inr ⟨cs, _, _, hc, .inl rfl⟩)
            have k3 : MKeep base bs w9 wr := by rw [HWR.out]; exact MKeep.grown (grownBy_setCellAt w9 g 1 _) hs9 (fun k e => by have := Option.some.inj e; omega) (fun k e => by have h := Option.some.inj e; subst h; exact .inr ⟨_, _, _, BG9.out, .inr rfl⟩)
            have k4 := MKeep.of_below bs hbu (by rw [hsr]; exact hs9)
            have k5 : MKeep base bs wu w8 := MKeep.grown HG8.out (Nat.le_trans (by rw [hsr]; exact hs9) hbu.size) (fun k e => by have := Option.some.inj e; omega) (fun k e => .inl (Option.some.inj e).symm)
            rw [HP.out, hfn]
            refine ⟨by rw [← hv]; rfl, ⟨⟨AI, cI, rfl⟩, ⟨_, blk_grown BGu.out HG8.out (fun e => hgb (Option.some.inj e)), R_besideG HRu.out HG8.out hmapu⟩, ⟨_, ?_, HGM.out.put b a wlo whi HH.out.symm⟩, hbg, hbm⟩, (((k1.trans k2).trans k3).trans k4).trans k5⟩
            have h8 := HO8.out
            rw [hv] at h8
            rw [List.length_append]
            exact h8
theorem and_calls (nIn : Nat) (W : World) (base g : Nat) (vI vO : Value) (bs ba : Nat) (gs : List Gt) (a b : Int) (hM : MK nIn W base g vI vO bs ba gs) (hbW : base ≤ W.heap.size) (ha : (Lit.int .i64 a).wf = true) (hb : (Lit.int .i64 b).wf = true) (hlen : nIn + gs.length ≤ 1000000) :
    Calls Tryd.prog 66 #[.pointer (some ⟨g, 0, none⟩), .int .i64 a, .int .i64 b] W fun e w' => e = .returned (.int .i64 (pAnd nIn gs a b).2) ∧ MK nIn w' base g vI vO bs ba (pAnd nIn gs a b).1 ∧ MKeep base bs W w' := by
  by_cases h : a ≤ b
  · exact and_le nIn W base g vI vO bs ba gs a b hM hbW ha hb hlen h
  · exact and_ge nIn W base g vI vO bs ba gs a b hM hbW ha hb hlen q29_
end Go.Proofs.YtjopdafckhkmmaaDoor.MBS
