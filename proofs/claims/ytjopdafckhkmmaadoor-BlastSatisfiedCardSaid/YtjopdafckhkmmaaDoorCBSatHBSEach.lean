/- each, by hand: a call through a function value in a loop. -/
import Derived.Test.YtjopdafckhkmmaaDoorCBSatHBSMakerOr
set_option linter.unusedVariables false
set_option linter.unusedSimpArgs false
namespace Go.Proofs.YtjopdafckhkmmaaDoor.MBS
open Go.Proofs.YtjopdafckhkmmaaDoor.Zed Go.RowKit Go.Proofs.YtjopdafckhkmmaaDoorW.PrintWords Go.Proofs.YtjopdafckhkmmaaDoorW.PrintLast Go.Proofs.YtjopdafckhkmmaaDoorW.PrintMore
attribute [local go_sem] Oper.semAt_some
abbrev kI := Kd.int .i64
/-- What a function that is handed to each keeps of each's own: the int rows from n1 on. -/
structure KeepI (n1 : Nat) (W W' : World) : Prop where
  size : W.heap.size ≤ W'.heap.size
  keep : ∀ (k : Nat) (cs : Array Value), n1 ≤ k → W.heap[k]? = some (.cells cs 3 (0, 0)) → W'.heap[k]? = some (.cells cs 3 (0, 0))
theorem KeepI.row {n1 : Nat} {W W' : World} {v : Value} {xs : List Int} (h : KeepI n1 W W') (hr : kI.R 3 W n1 (fun _ => True) v xs) : kI.R 3 W' n1 (fun _ => True) v xs := by
  obtain ⟨h0, inner, ho, hrr⟩ := hr
  refine ⟨h0, inner, ⟨ho.1, ?_⟩, hrr.imp_ (fun _ _ hp => hp)⟩
  rcases ho.2 with hv | ⟨g, cap, cur, hv, hb, hg, hn, hm, hs, ht⟩
  · exact .inl hv
  · exact .inr ⟨g, cap, cur, hv, hb, h.keep g cur hb hg, hn, hm, hs, ht⟩
/-- each, la a function. -/
def pEach {σ : Type} (f : σ → Int → Int → σ × Int) : σ → List Int → List Int → σ × List Int
  | s, x :: a, y :: b => ((pEach f (f s x y).1 a b).1, (f s x y).2 :: (pEach f (f s x y).1 a b).2)
  | s, _, _ => (s, [])
theorem pEach_snoc {σ : Type} (f : σ → Int → Int → σ × Int) : ∀ (s : σ) (a b : List Int) (x y : Int), a.length = b.length → pEach f s (a ++ [x]) (b ++ [y]) = ((f (pEach f s a b).1 x y).1, (pEach f s a b).2 ++ [(f (pEach f s a b).1 x y).2])
  | s, [], [], x, y, _ => rfl
  | s, [], _ :: _, _, _, h => by simp at h
  | s, _ :: _, [], _, _, h => by simp at h
  | s, u :: a, v :: b, x, y, h => by
    have ih := pEach_snoc f (f s u v).1 a b x y (by simpa using h)
    simp only [List.cons_append, pEach, ih]
theorem pEach_len {σ : Type} (f : σ → Int → Int → σ × Int) : ∀ (s : σ) (a b : List Int), (pEach f s a b).2.length ≤ a.length
  | s, [], _ => by simp [pEach]
  | s, _ :: _, [] => by simp [pEach]
  | s, u :: a, v :: b => by
    have := pEach_len f (f s u v).1 a b
    simp only [pEach, List.length_cons]
    omega
def each_T5 : Bool × List (List Nat × List Nat) := (true, [([], []), ([], []), ([], []), ([], []), ([2, 3], [2, 3]), ([4], [4]), ([], []), ([], []), ([6, 7], [6, 7]), ([8], [8]), ([1, 5, 9], [1, 5, 9]), ([10], [10]), ([0, 11, 10], [0, 11]), ([12, 12, 0, 1, 2, 3, 4, 5, 6, 7, 8, 9, 10, 11, 12], [0, 12])])
def each_B5 : List Nat := [0, 0, 0, 0, 12, 28, 0, 0, 192, 448, 1022, 2046, 4095, 8191]
theorem each_tab5 : rtab .any (opsOf Tryd.f48 5) = each_T5 := by kernel_rfl
theorem each_bits5 : waitsOk each_T5.2 each_B5 = true := by kernel_rfl
set_option maxRecDepth 100000 in
set_option maxHeartbeats 1000000 in
theorem each_calls {σ : Type} (Inv : σ → World → Prop) (pf : σ → Int → Int → σ × Int) (fid : Nat) (first cap : Array Value) (eg : ∀ args w, (callFunc fid args).run Tryd.prog w = .ok (.enter fid args) w) (n1 : Nat) (W : World) (hn1 : n1 = W.heap.size) (A B : Option Addr) (c d : Nat) (la lb : List Int)
    (hlen : la.length = lb.length) (hbound : la.length ≤ 1000000) (s0 : σ) (hread : ∀ s W, Inv s W → kI.C W A la.length la ∧ kI.C W B lb.length lb)
    (hst : ∀ s W W' row, Inv s W → W.grownBy W' row → (∀ k, row = some k → n1 ≤ k ∧ ∃ cells, W.heap[k]? = some (.cells cells 3 (0, 0))) → Inv s W')
    (hf : ∀ (i : Nat) (hi : i < la.length) (s : σ) (W : World), s = (pEach pf s0 (la.take i) (lb.take i)).1 → Inv s W → n1 ≤ W.heap.size → Calls Tryd.prog fid (first ++ #[.int .i64 (rd la i), .int .i64 (rd lb i)] ++ cap) W fun e W' => e = .returned (.int .i64 (pf s (rd la i) (rd lb i)).2) ∧ Inv (pf s (rd la i) (rd lb i)).1 W' ∧ KeepI n1 W W')
    (h0 : Inv s0 W) :
    Calls Tryd.prog 48 #[.slice A la.length c, .slice B lb.length d, .func (.func fid) first cap] W fun e w' => ∃ v, e = .returned v ∧ Inv (pEach pf s0 la lb).1 w' ∧ kI.R 3 w' n1 (fun _ => True) v (pEach pf s0 la lb).2 ∧ n1 ≤ w'.heap.size := by
  have HREAD := Aside0.mk hread
  have HST := Aside0.mk hst
  have HF := Aside0.mk hf
  have H0 := Aside0.mk h0
  have HLE := Aside0.mk hlen
  clear hread hst hf h0 hlen
  go_enter Tryd.func48, Tryd.ntmps48
  go_wp2
  go_loopw [7, 11] (fun v7 v11 wr => ∃ i : Nat, v11 = .int .i64 i ∧ i ≤ la.length ∧ Aside0 (Inv (pEach pf s0 (la.take i) (lb.take i)).1 wr) ∧ Aside0 (kI.R 3 wr n1 (fun _ => True) v7 (pEach pf s0 (la.take i) (lb.take i)).2) ∧ Aside0 (n1 ≤ wr.heap.size)) (fun v7 v11 _ => la.length - (intOf v11).toNat)
  case atStart => exact ⟨0, rfl, Nat.zero_le _, ⟨by simpa [pEach] using H0.out⟩, ⟨by simpa [pEach] using Kd.R_nil _ _ _ _ _⟩, ⟨Nat.le_of_eq hn1⟩⟩
  case round =>
    obtain ⟨i, rfl, hi, HI, HR, HN⟩ := hrel
    by_cases hlt : i < la.length
    · obtain ⟨hca, hcb⟩ := HREAD.out _ _ HI.out
      obtain ⟨adA, rfl, hxa⟩ := Kd.at_int hca (i : Int) q29_ q29_
      have hltb0 : (i : Int) < (lb.length : Int) := by have := HLE.out; omega
      obtain ⟨adB, rfl, hxb⟩ := Kd.at_int hcb (i : Int) q29_ hltb0
      have ea : rd la (i : Int) = la[i] := by simp [rd, List.getD_eq_getElem?_getD, hlt]
      have hltb : i < lb.length := by have := HLE.out; omega
      have eb : rd lb (i : Int) = lb[i] := by simp [rd, List.getD_eq_getElem?_getD, hltb]
      have hbi : (i : Int) < (lb.length : Int) := by omega
      simp only [Int.toNat_natCast] at hxa hxb
      obtain ⟨xa, hxA⟩ : ∃ v, v = rd la (i : Int) := ⟨_, rfl⟩
      obtain ⟨xb, hxB⟩ : ∃ v, v = rd lb (i : Int) := ⟨_, rfl⟩
      rw [← hxA] at hxa
      rw [← hxB] at hxb
      have HXA := Aside0.mk hxA
      have HXB := Aside0.mk hxB
      have EA := Aside0.mk ea
      have EB := Aside0.mk eb
      clear hxA hxB ea eb
      have HLB := Aside0.mk (show ((pEach pf s0 (la.take i) (lb.take i)).2.length + 1) * 8 ≤ 140737488355328 by have h1 := pEach_len pf s0 (la.take i) (lb.take i); rw [List.length_take] at h1; omega)
      go_wp2
      refine start_ (n := 14) (S := fun w' => w'.cell? (adA.add i) = some (.int .i64 xa) ∧ w'.cell? (adB.add i) = some (.int .i64 xb)) (ds := [13]) #[false, false, false, false, false, false, false, false, false, false, false, false, false, false] q28_ rfl rfl ⟨hxa, hxb⟩ (fun hHeld => ?_); refine with_tabW each_tab5 each_bits5 (fun HT_ HW_ => ?_)
      refine pz_ (i := 0) (N := some 14) (h := ?_)
      refine pz_ (i := 1) (N := some 15) (h := ?_)
      refine pz_ (i := 2) (N := some 16) (h := ?_)
      refine pz_ (i := 3) (N := some 17) (h := ?_)
      refine pz_ (i := 4) (N := some 18) (h := ?_)
      refine tz_ (i := 5) (N := some 19) (h := ?_)
      refine pz_ (i := 6) (N := some 20) (h := ?_)
      refine pz_ (i := 7) (N := some 21) (h := ?_)
      refine pz_ (i := 8) (N := some 22) (h := ?_)
      refine tz_ (i := 9) (N := some 23) (h := ?_)
      refine nz_ (i := 10) (N := some 24) (h := fun K hK => ?_)
      refine call_ (f := fid) (first ++ #[.int .i64 xa, .int .i64 xb] ++ cap) (by rfl) rfl (by simp [execOp, resolve, invoke, eg, go_sem]) ?_
      have hcl := HF.out i hlt _ wr.drew rfl (HST.out _ _ _ none HI.out ⟨rfl, rfl, rfl, Nat.le_refl _, fun _ _ _ => rfl⟩ (fun k e => by cases e)) HN.out
      rw [← HXA.out, ← HXB.out] at hcl
      refine hcl.mono ?_
      rintro e w6 ⟨rfl, hi6, hk6⟩
      refine ⟨_, rfl, ?_⟩
      have HI6 := Aside0.mk hi6
      have HR6 := Aside0.mk (hk6.row (Kd.R_drew HR.out))
      have HN6 := Aside0.mk (Nat.le_trans (show n1 ≤ wr.drew.heap.size from HN.out) hk6.size)
      obtain ⟨c6a, c6b⟩ := HREAD.out _ _ hi6
      obtain ⟨a6, ea6, xa6⟩ := Kd.at_int c6a (i : Int) q29_ q29_
      cases ea6
      obtain ⟨b6, eb6, xb6⟩ := Kd.at_int c6b (i : Int) q29_ hltb0
      cases eb6
      rw [← HXA.out] at xa6
      rw [← HXB.out] at xb6
      simp only [Int.toNat_natCast] at xa6 xb6
      clear hcl hi6 hk6 c6a c6b
      refine hK.out _ _ ⟨xa6, xb6⟩ (fun hHeld => ?_)
      clear hK K
      refine mz_ (some 24) (h := ?_)
      refine nz_ (i := 11) (N := some 25) (h := fun K hK => ?_)
      refine vz_ (h := ?_)
      refine hK.out _ _ ⟨((below_alloc (Below.refl w6.heap.size w6) _).cell (World.block_lt_of_cell? w6 _ xa6)).trans xa6, ((below_alloc (Below.refl w6.heap.size w6) _).cell (World.block_lt_of_cell? w6 _ xb6)).trans xb6⟩ (fun hHeld => ?_)
      clear hK K
      refine mz_ (some 25) (h := ?_)
      refine nz_ (i := 12) (N := some 26) (h := fun K hK => ?_)
      obtain ⟨r6, hr6⟩ : ∃ r, r = (pf (pEach pf s0 (la.take i) (lb.take i)).1 xa xb).2 := ⟨_, rfl⟩
      refine Kd.R_append_step kI (w0 := w6) n1 (by rfl) (.tmp 14) (.tmp 25) 30 3 (.int .i64 0) 8 rfl Tryd.underlying30 info3 rfl q33_ q33_ u7 (pEach pf s0 (la.take i) (lb.take i)).2 (pf (pEach pf s0 (la.take i) (lb.take i)).1 xa xb).2 [.int .i64 (pf (pEach pf s0 (la.take i) (lb.take i)).1 xa xb).2] (fun _ => True) (fun _ => False) rfl rfl ?aP (fun _ hk => hk.elim) ?aF ?aO ?aB ?aS ?aL ?_
      (case aP => rfl)
      (case aF => exact (fun _ _ => trivial))
      (case aO => exact HR6.out)
      (case aB => exact Below.refl _ _)
      (case aS => exact HN6.out)
      (case aL => exact HLB.out)
      intro v9 w9 ho9 hb9 hg9 hat9
      have hi9 := HST.out _ _ _ _ HI6.out hg9 (fun k e => by obtain ⟨_, ho⟩ := Kd.R_own HR6.out; exact ⟨own_base ho k e, own_typed ho k e⟩)
      have HI9 := Aside0.mk hi9
      have HR9 := Aside0.mk ho9
      have HN9 := Aside0.mk (Nat.le_trans HN6.out hg9.size)
      obtain ⟨c9a, c9b⟩ := HREAD.out _ _ hi9
      obtain ⟨a9, ea9, xa9⟩ := Kd.at_int c9a (i : Int) q29_ q29_
      cases ea9
      obtain ⟨b9, eb9, xb9⟩ := Kd.at_int c9b (i : Int) q29_ hltb0
      cases eb9
      rw [← HXA.out] at xa9
      rw [← HXB.out] at xb9
      simp only [Int.toNat_natCast] at xa9 xb9
      clear hi9 ho9 hb9 hg9 hat9 c9a c9b
      refine hK.out _ _ ⟨xa9, xb9⟩ (fun hHeld => ?_)
      clear hK K
      refine mz_ (some 26) (h := ?_)
      refine last_ (i := 13) (N := some 7) #[true, true, true, true, true, true, true, true, true, true, true, true, true, true] rfl rfl (one_of HT_.out q28_) q33_ (fun K hK => ?_)
      refine vz_ (h := ?_)
      refine hK.out _ _ ?_
      clear hK K
      refine mz_ (some 7) (h := ?_)
      refine done_ (done_of HT_.out q28_) ?_
      have hp : pEach pf s0 (la.take (i + 1)) (lb.take (i + 1)) = ((pf (pEach pf s0 (la.take i) (lb.take i)).1 xa xb).1, (pEach pf s0 (la.take i) (lb.take i)).2 ++ [(pf (pEach pf s0 (la.take i) (lb.take i)).1 xa xb).2]) := by
        rw [List.take_succ_eq_append_getElem hlt, List.take_succ_eq_append_getElem hltb, pEach_snoc _ _ _ _ _ _ (by rw [List.length_take, List.length_take]; omega), HXA.out, HXB.out, EA.out, EB.out]
      have HP := Aside0.mk hp
      clear hp
      go_wp2
      go_roundw
      case measure => simp [intOf]; omega
      case rel => exact ⟨i + 1, by go_num, hlt, ⟨by rw [HP.out]; exact HI9.out⟩, ⟨by rw [HP.out]; exact HR9.out⟩, HN9⟩
    · have hie : i = la.length := by omega
      have hieb : i = lb.length := by have := HLE.out; omega
      have HIE := Aside0.mk (show pEach pf s0 (la.take i) (lb.take i) = pEach pf s0 la lb by rw [List.take_of_length_le q29_, List.take_of_length_le q29_])
      go_wp2
      go_ret
      exact ⟨u7, rfl, by rw [← HIE.out]; exact HI.out, by rw [← HIE.out]; exact HR.out, HN.out⟩
end Go.Proofs.YtjopdafckhkmmaaDoor.MBS
