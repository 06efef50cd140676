/- maker.leaf, by hand: the literals of a constant or a variable. -/
import Derived.Test.YtjopdafckhkmmaaDoorCBSatHBSAddM
import Derived.Maps.OwnOps
set_option linter.unusedVariables false
set_option linter.unusedSimpArgs false
namespace Go.Proofs.YtjopdafckhkmmaaDoor.MBS
open Go.Proofs.YtjopdafckhkmmaaDoor.Zed Go.RowKit Go.Proofs.YtjopdafckhkmmaaDoorW.PrintWords Go.Proofs.YtjopdafckhkmmaaDoorW.PrintLast Go.Proofs.YtjopdafckhkmmaaDoorW.PrintMore
attribute [local go_sem] Oper.semAt_some
/-- The map of the inputs. -/
def AT (W : World) (ba : Nat) (atL : ByteArray → Int → Int) : Prop := ∃ (D : DataW Unit) (n : Nat), W.ownsMap Tryd.prog 44 (plainElem Tryd.prog 3) ba n D ∧ ∀ s b, s.size ≤ maxLen → (Lit.int .i64 b).wf = true → D.atKey (kyI s b) (.lit (.int .i64 0)) = .lit (.int .i64 (atL s b))
theorem AT.obj {W : World} {ba : Nat} {atL : ByteArray → Int → Int} (h : AT W ba atL) : ∃ es c, W.heap[ba]? = some (.map es c) := by
  obtain ⟨D, n, ⟨es, c, h1, _⟩, _⟩ := h
  exact ⟨es, c, h1⟩
theorem AT.same {W W' : World} {ba : Nat} {atL : ByteArray → Int → Int} (h : AT W ba atL) (e : ∀ o, W.heap[ba]? = some o → W'.heap[ba]? = some o) : AT W' ba atL := by
  obtain ⟨D, n, ⟨es, c, h1, h2⟩, h3⟩ := h
  exact ⟨D, n, ⟨es, c, e _ h1, h2⟩, h3⟩
theorem AT.keep {base bs : Nat} {W W' : World} {ba : Nat} {atL : ByteArray → Int → Int} (h : AT W ba atL) (k : MKeep base bs W W') (hne : ba ≠ bs) : AT W' ba atL := by
  obtain ⟨es, c, h1⟩ := h.obj
  exact h.same (fun o ho => k.keep _ _ ho hne (fun cs q fr e => by subst e; rw [h1] at ho; cases ho))
theorem AT.below {W W' : World} {ba : Nat} {atL : ByteArray → Int → Int} (h : AT W ba atL) (hb : Below W.heap.size W W') : AT W' ba atL := h.same (fun o ho => blk_below ho hb)
set_option maxRecDepth 100000 in
theorem lookI {W : World} {ba : Nat} {atL : ByteArray → Int → Int} (h : AT W ba atL) (s : ByteArray) (b : Int) (hs : s.size ≤ maxLen) (hb : (Lit.int .i64 b).wf = true) :
    ∀ m, (Instr.lookup 68 (.map (some ba)) (.agg #[.string s, .int .i64 b]) false).run Tryd.prog (W.drewN m) = .ok (.int .i64 (atL s b)) (W.drewN m) := fun m => by
  obtain ⟨D, n, h1, h2⟩ := h
  have hm : (W.drewN m).ownsMap Tryd.prog 44 (plainElem Tryd.prog 3) ba n D := h1
  obtain ⟨c, hrun, hat, _⟩ := hm.lookup_int keyedI Tryd.underlying68 Tryd.underlying3 q28_ (keyI s b hs hb)
  rw [h2 s b hs hb] at hat
  injection hat with hat
  injection hat with _ hat
  rw [hat]
  exact hrun
/-- A bit of a word. -/
def bitOf (x : Int) (i : Nat) : Int := x / 2 ^ i % 2
theorem bitOf_01 (x : Int) (i : Nat) : bitOf x i = 0 ∨ bitOf x i = 1 := by unfold bitOf; omega
/-- The literals of a leaf. -/
def pLeaf (atL : ByteArray → Int → Int) (x : Tm) : List Int := (List.range x.f1.toNat).map fun (i : Nat) => if x.f0 = 2 then atL x.f3 (i : Int) else bitOf x.f2 i
theorem pLeaf_len (atL : ByteArray → Int → Int) (x : Tm) : (pLeaf atL x).length = x.f1.toNat := by simp [pLeaf]
theorem bit_eq (x : Int) (i : Nat) (hw : (Lit.int .u64 x).wf = true) : wrap64 (Go.bits .and .u64 (x / 2 ^ i) 1) = bitOf x i := by
  have hx : 0 ≤ x ∧ x < 18446744073709551616 := by
    simp [Lit.wf] at hw
    have e0 : IntKind.u64.min = 0 := by decide
    have e1 : IntKind.u64.max = 18446744073709551615 := by decide
    omega
  have h1 : 0 ≤ x / 2 ^ i := Int.ediv_nonneg hx.1 (Int.pow_nonneg q29_)
  have h2 : x / 2 ^ i ≤ x := Int.ediv_le_self _ hx.1
  have e := bits_mask .u64 64 q33_ (fun n h₀ h₁ => by rw [IntKind.wrap_u64]; omega) 1 q33_ (x / 2 ^ i) h1 q29_
  have e2 : Go.bits .and .u64 (x / 2 ^ i) 1 = x / 2 ^ i % 2 := by simpa using e
  rw [e2]
  unfold bitOf
  exact w64_in _ q29_
theorem range_snoc {α : Type} (f : Nat → α) (n i : Nat) (h : i < n) : ((List.range n).map f).take (i + 1) = ((List.range n).map f).take i ++ [f i] := by
  rw [List.take_succ_eq_append_getElem (by simpa using h)]
  simp
set_option maxRecDepth 100000 in
set_option maxHeartbeats 1000000 in
theorem leaf_calls (nIn : Nat) (w0 W : World) (base g : Nat) (vI vO : Value) (bs ba : Nat) (gs : List Gt) (atL : ByteArray → Int → Int) (x : Tm) (cs : List Value) (hK : kT.K w0 x cs) (hM : MK nIn W base g vI vO bs ba gs) (hA : AT W ba atL)
    (h0 : 0 ≤ x.f1) (h1 : x.f1 ≤ 64) (hs : x.f3.size ≤ maxLen) (hw2 : (Lit.int .u64 x.f2).wf = true) :
    Calls Tryd.prog 44 #[.pointer (some ⟨g, 0, none⟩), .agg cs.toArray] W fun e w' => ∃ v, e = .returned v ∧ Below W.heap.size W w' ∧ RI w' v (pLeaf atL x) := by
  obtain ⟨A5, c5, rfl, l5, g5⟩ := k25_open hK
  have hu25 := Tryd.underlying25
  obtain ⟨⟨AI, cI, rfl⟩, ⟨vG, hg, hR⟩, hmap, hbg, hbm⟩ := hM
  obtain ⟨n, hn⟩ : ∃ n : Nat, x.f1 = n := ⟨x.f1.toNat, by omega⟩
  have hpl := pLeaf_len atL x
  obtain ⟨out, hout⟩ : ∃ out, out = pLeaf atL x := ⟨_, rfl⟩
  have HSN : ∀ i : Nat, i < n → out.take (i + 1) = out.take i ++ [if x.f0 = 2 then atL x.f3 (i : Int) else bitOf x.f2 i] := fun i hi => by
    rw [hout]
    exact range_snoc _ _ _ q29_
  rw [← hout] at hpl ⊢
  have HL := Aside0.mk (show out.length = n by rw [hpl, hn]; rfl)
  have HSN := Aside0.mk HSN
  have HN := Aside0.mk hn
  have hno := Aside0.mk (show (n : Int) ≤ 64 by omega)
  clear hout hpl hmap hR hK g5 hn
  obtain ⟨Wb, hWb⟩ : ∃ Wb, Wb = W.alloc (.cells #[.int .u8 x.f0, .int .i64 x.f1, .int .u64 x.f2, .string x.f3, .int .i64 x.f4, .slice A5 x.f5.length c5] 25) := ⟨_, rfl⟩
  have hbel : Below W.heap.size W Wb := by rw [hWb]; exact below_alloc (Below.refl _ _) _
  have bx := blk_new W (.cells #[.int .u8 x.f0, .int .i64 x.f1, .int .u64 x.f2, .string x.f3, .int .i64 x.f4, .slice A5 x.f5.length c5] 25)
  rw [← hWb] at bx
  have hg' := blk_below hg hbel
  have hA' := hA.below hbel
  have hz : Wb.heap.size = W.heap.size + 1 := by rw [hWb]; simp
  go_enter Tryd.func44, Tryd.ntmps44
  go_wp2
  have q0 := (blk_cell bx 0).trans (show _ = some (Value.int .u8 x.f0) from rfl)
  have q1 := (blk_cell bx 1).trans (show _ = some (Value.int .i64 x.f1) from rfl)
  have q2 := (blk_cell bx 2).trans (show _ = some (Value.int .u64 x.f2) from rfl)
  have q3 := (blk_cell bx 3).trans (show _ = some (Value.string x.f3) from rfl)
  have hgi := blk_cell hg' 0
  have BX := Aside0.mk bx
  have HGP := Aside0.mk hg'
  have HA := Aside0.mk hA'
  have HB := Aside0.mk hbel
  have HZ := Aside0.mk hz
  have HGB := Aside0.mk (blk_lt hg)
  rw [← hWb]
  clear hWb bx hg' hA' hbel hz hg hA
  go_loopw [5, 6, 7, 10] (fun v5 v6 v7 v10 wr => ∃ i : Nat, v10 = .int .i64 i ∧ (i : Int) ≤ x.f1 ∧ Aside0 (kI.R 3 wr Wb.heap.size (fun _ => True) v5 (out.take i)) ∧ Aside0 (Below Wb.heap.size Wb wr)) (fun v5 v6 v7 v10 _ => x.f1.toNat - (intOf v10).toNat)
  case atStart => exact ⟨0, rfl, by omega, ⟨by simpa using Kd.R_nil _ _ _ _ _⟩, ⟨Below.refl _ _⟩⟩
  case round =>
    obtain ⟨i, rfl, hi, HR, HW⟩ := hrel
    by_cases hlt : (i : Int) < x.f1
    · have q0 := (HW.out.cell (World.block_lt_of_cell? Wb _ q0)).trans q0
      have q2 := (HW.out.cell (World.block_lt_of_cell? Wb _ q2)).trans q2
      have hwf : (Lit.int .i64 (i : Int)).wf = true := nat_wf q29_ q29_
      have hlen := Aside0.mk (show (out.take i).length + 1 ≤ 17592186044416 by rw [List.length_take]; have := HL.out; have := hno.out; omega)
      have hsn := Aside0.mk (HSN.out i (by have := HN.out; omega))
      have HLE := Aside0.mk HW.out.size
      have hbit : wrap64 (Go.bits .and .u64 (x.f2 / 2 ^ i) 1) = bitOf x.f2 i := bit_eq x.f2 i hw2
      by_cases h2 : x.f0 = 2
      · have h2b : (x.f0 == 2) = true := by simp [h2]
        have q3 := (HW.out.cell (World.block_lt_of_cell? Wb _ q3)).trans q3
        have hga := (blk_cell (blk_below HGP.out HW.out) 4).trans (show _ = some (Value.map (some ba)) from rfl)
        have hlk := lookI (HA.out.below HW.out) x.f3 i hs hwf
        rw [if_pos h2] at hsn
        have H2 := Aside0.mk h2
        clear h2
        go_wp2
        go_quiet (fail)
        go_wp2_with (first | ((with_reducible refine gate_builtin (b := .append) (xs := #[.tmp 31, .tmp 33]) rfl ?_); at_builtin; go_loud (refine Kd.R_append kI (w0 := Wb) Wb.heap.size rfl (.tmp 31) (.tmp 33) 30 3 (.int .i64 0) 8 rfl Tryd.underlying30 info3 rfl q33_ q33_ u5 (out.take i) (atL x.f3 i) [.int .i64 (atL x.f3 i)] (fun _ => True) (fun _ => False) rfl rfl rfl (fun _ hk => hk.elim) (fun _ _ => trivial) (Kd.R_drewN HR.out _) (pw_below_drewN HW.out _) HLE.out (by have := hlen.out; omega) ?_); intro v5 w5 ho5 hb5 hg5 hat5; have HO5 := Aside0.mk ho5; have HB5 := Aside0.mk hb5; clear ho5 hb5 hg5 hat5))
        go_roundw
        case measure => simp [intOf]; omega
        case rel => exact ⟨i + 1, by go_num, hlt, ⟨by rw [hsn.out]; exact HO5.out⟩, HB5⟩
      · have h2b : (x.f0 == 2) = false := by simp [h2]
        rw [if_neg h2] at hsn
        clear h2
        go_wp2_with (first | ((with_reducible refine gate_builtin (b := .append) (xs := #[.tmp 31, .tmp 33]) rfl ?_); at_builtin; go_loud (refine Kd.R_append kI (w0 := Wb) Wb.heap.size rfl (.tmp 31) (.tmp 33) 30 3 (.int .i64 0) 8 rfl Tryd.underlying30 info3 rfl q33_ q33_ u5 (out.take i) (bitOf x.f2 i) [.int .i64 (bitOf x.f2 i)] (fun _ => True) (fun _ => False) rfl rfl rfl (fun _ hk => hk.elim) (fun _ _ => trivial) HR.out HW.out HLE.out (by have := hlen.out; omega) ?_); intro v5 w5 ho5 hb5 hg5 hat5; have HO5 := Aside0.mk ho5; have HB5 := Aside0.mk hb5; clear ho5 hb5 hg5 hat5))
        go_roundw
        case measure => simp [intOf]; omega
        case rel => exact ⟨i + 1, by go_num, hlt, ⟨by rw [hsn.out]; exact HO5.out⟩, HB5⟩
    · go_wp2
      go_ret
      have he : (i : Int) = x.f1 := by omega
      have ht : out.take i = out := List.take_of_length_le (by have := HL.out; have := HN.out; omega)
      rw [ht] at HR
      exact ⟨u5, rfl, below_step HB.out HW.out, RI.of_R HR.out (by have := HL.out; have := hno.out; omega)⟩
end Go.Proofs.YtjopdafckhkmmaaDoor.MBS
