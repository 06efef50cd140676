/- blast.Run by hand (wip/scratch/asm.py printed this text): a closure over the captured list, two loops, a drawn region. -/
import Derived.Test.YtjopdafckhkmmaaDoorCBSatMBSx0
import Derived.Outline
import Derived.Deep.DeepCutAuto
import Derived.Deep.RegionHeldLaw
import Derived.Deep.RegionHeld3
import Derived.Deep.RegionLaw
import Derived.BigRegion
import Derived.Test.YtjopdafckhkmmaaDoorCBSatMBSx3
set_option linter.unusedVariables false
set_option linter.unusedSimpArgs false
namespace Go.Proofs.YtjopdafckhkmmaaDoor.MBS
open Go.Proofs.YtjopdafckhkmmaaDoor.Zed Go.RowKit Go.Proofs.YtjopdafckhkmmaaDoorW.PrintWords Go.Proofs.YtjopdafckhkmmaaDoorW.PrintLast Go.Proofs.YtjopdafckhkmmaaDoorW.PrintMore
/-- What the closure 'at' of Run answers. -/
def at_ (v : List Bool) (l : Int) : Option Bool :=
  if 0 ≤ wrap64 (Int.tdiv l 2) then (if wrap64 (Int.tdiv l 2) < (v.length : Int) then some (rdOf false v (wrap64 (Int.tdiv l 2)) != (Int.tmod l 2 == 1)) else none) else none
set_option maxHeartbeats 400000 in
theorem at_calls (B : Nat) (A : Option Addr) (c : Nat) (v : List Bool) (l : Int) (r : Bool) (w : World) (hc : w.cell? ⟨B, 0, none⟩ = some (.slice A v.length c)) (hr : Kd.C Kd.bool w A v.length v) (h : at_ v l = some r) :
    Calls Tryd.prog 37 #[.int .i64 l, .pointer (some ⟨B, 0, none⟩)] w fun e w' => e = .returned (.bool r) ∧ w = w' := by
  unfold at_ at h
  by_cases h0 : 0 ≤ wrap64 (Int.tdiv l 2)
  · rw [if_pos h0] at h
    by_cases h1 : wrap64 (Int.tdiv l 2) < (v.length : Int)
    · rw [if_pos h1] at h
      obtain rfl := Option.some.inj h
      clear h
      obtain ⟨j, hj⟩ : ∃ j : Int, wrap64 (Int.tdiv l 2) = j := ⟨_, rfl⟩
      rw [hj] at h0 h1 ⊢
      obtain ⟨ad, c', e, h2, hK, hcell⟩ := Kd.C_get hr false j h0 h1
      have hx : w.cell? (ad.add j.toNat) = some (.bool (rdOf false v j)) := by
        obtain rfl : c' = [.bool (v.getD j.toNat false)] := hK
        have := hcell 0 _ rfl
        simpa [show Kd.bool.sz = 1 from rfl, rdOf] using this
      subst e
      clear hcell hK h2 hr
      go_enter Tryd.func37, Tryd.ntmps37
      go_wp2
      go_ret
      refine ⟨?_, rfl⟩
      exact congrArg Ending.returned rfl
    · rw [if_neg h1] at h; cases h
  · rw [if_neg h0] at h; cases h

def gates_ (v : List Bool) : List S49 → Option (List Bool)
  | [] => some v
  | g :: gs => (at_ v g.f0).bind fun x => (if x = true then at_ v g.f1 else some false).bind fun y => if v.length < 140737488355328 then gates_ (v ++ [y]) gs else none
def outs_ (v acc : List Bool) : List Int → Option (List Bool)
  | [] => some acc
  | o :: os => (at_ v o).bind fun x => if acc.length < 140737488355328 then outs_ v (acc ++ [x]) os else none
def blast_Run.f (k : Nat) (l0_0 : List (S44)) (l0_1 : List (S49)) (l0_2 : List Int) (l1 : List Bool) : Option (List Bool × Int) :=
  (blast_Check.f k l0_0 l0_1 l0_2).bind fun t => if t = 0 then (if l1.length = l0_0.length then (if 1 + l1.length < 140737488355328 then (gates_ ([false] ++ l1) l0_1).bind fun v => (outs_ v [] l0_2).bind fun o => some (o, 0) else none) else some ([], 2)) else some ([], t)
theorem fresh_ {e : TypeId} {W : World} {base : Nat} {ok : Nat → Prop} {v : Value} {xs : List Bool} (h : Kd.R Kd.bool e W base ok v xs) {k : Nat} (hk : W.heap.size ≤ k) : some k ≠ v.ownBlock := by
  intro he
  obtain ⟨cells, hc⟩ := Kd.R_typed h k he.symm
  have := (Array.getElem?_eq_some_iff.mp hc).1
  omega
def run_T11 : Bool × List (List Nat × List Nat) := (true, [([], []), ([], []), ([], []), ([2], [2]), ([1, 3], [1, 3]), ([4, 4], [4]), ([5], [5]), ([5], [5]), ([7, 5], [5, 7]), ([6, 8, 5, 5], [5, 6, 8]), ([5, 9], [5, 9]), ([10], [10]), ([0, 11, 9], [0, 11]), ([12, 12, 0, 1, 2, 3, 4, 5, 6, 7, 8, 9, 10, 11, 12], [12])])
def run_B11 : List Nat := [0, 0, 0, 4, 14, 30, 62, 62, 190, 510, 1022, 2046, 4095, 8191]
theorem run_tab11 : rtab .any (opsOf Tryd.f15 11) = run_T11 := by kernel_rfl
theorem run_bits11 : waitsOk run_T11.2 run_B11 = true := by kernel_rfl
set_option maxHeartbeats 1000000 in
set_option maxRecDepth 100000 in
theorem blast_Run.main (k : Nat) (A0_0 : Option Addr) (c0_0 : Nat) (l0_0 : List (S44)) (A0_1 : Option Addr) (c0_1 : Nat) (l0_1 : List (S49)) (A0_2 : Option Addr) (c0_2 : Nat) (l0_2 : List Int) (A1 : Option Addr) (c1 : Nat) (l1 : List Bool) (V O : List Bool) (w : World) (hr0_0 : Kd.C k44 w A0_0 l0_0.length l0_0) (hc0_0 : l0_0.length ≤ c0_0) (hr0_1 : Kd.C k49 w A0_1 l0_1.length l0_1) (hc0_1 : l0_1.length ≤ c0_1) (hr0_2 : Kd.C (Kd.int .i64) w A0_2 l0_2.length l0_2) (hc0_2 : l0_2.length ≤ c0_2) (hr1 : Kd.C Kd.bool w A1 l1.length l1) (hc1 : l1.length ≤ c1) (HT : Aside0 (blast_Check.f k l0_0 l0_1 l0_2 = some 0)) (h1 : l1.length = l0_0.length) (LM : Aside0 (1 + l1.length < 140737488355328)) (HV : Aside0 (gates_ ([false] ++ l1) l0_1 = some V)) (HOut : Aside0 (outs_ V [] l0_2 = some O)) :
    Calls Tryd.prog 15 #[.agg #[.slice A0_0 l0_0.length c0_0, .slice A0_1 l0_1.length c0_1, .slice A0_2 l0_2.length c0_2], .slice A1 l1.length c1] w fun e w' => ∃ v0_ : Value, e = .returned (.tuple #[v0_, .int .i64 0]) ∧ Kd.R Kd.bool 4 w' w.heap.size (fun _ => True) v0_ O ∧ Below w.heap.size w w' := by
  have hu26 := Tryd.underlying32
  have hm1 := hr0_1.2.1
  have hm2 := hr0_2.2.1
  have HR0 := Aside0.mk hr0_0
  have HR1 := Aside0.mk hr0_1
  have HR2 := Aside0.mk hr0_2
  have HR3 := Aside0.mk hr1
  have HC0 := Aside0.mk hc0_0
  have HC1 := Aside0.mk hc0_1
  have HC2 := Aside0.mk hc0_2
  have h1b : ((l1.length : Int) != (l0_0.length : Int)) = false := by rw [h1]; simp
  have h1c : (l1.length != l0_0.length) = false := by rw [h1]; simp
  have h1d : (l1.length == l0_0.length) = true := by rw [h1]; simp
  clear hr0_0 hr0_1 hr0_2 hr1 hc0_0 hc0_1 hc0_2 hc1 h1
  obtain ⟨xs, hxs⟩ : ∃ xs : List Bool, xs = [false] ++ l1 := ⟨_, rfl⟩
  have NX := Aside0.mk hxs
  have HV2 := Aside0.mk (show gates_ xs l0_1 = some V from by rw [hxs]; exact HV.out)
  clear hxs HV
  have HB := Aside0.mk (Below.refl w.heap.size w)
  go_enter Tryd.func15, Tryd.ntmps15
  go_wp2_with (first | ((with_reducible refine gate_dst (N := 2) rfl ?_); refine box_event ?hg (N := 2) ?hd (cs := #[.slice A0_0 l0_0.length c0_0, .slice A0_1 l0_1.length c0_1, .slice A0_2 l0_2.length c0_2]) (t := 32) ?hr ?_; (case hd => rfl); (case hg => rfl); (case hr => first | (go_simp; done) | (go_simp; rfl)); intro gb hg w4 hbox hb; have n0_ := Aside0.mk (below_step HB.out hb); have BK := Aside0.mk hbox; have GW := Aside0.mk ((by rw [hg]; exact Nat.le_refl _) : w.heap.size ≤ gb); have hq0 := (blk_cell hbox 0); have hq1 := (blk_cell hbox 1); have hq2 := (blk_cell hbox 2); simp at hq0 hq1 hq2; clear HB; have HB := n0_; clear n0_ hb hbox hg) | (go_at_call 12; refine (blast_Check.calls k _ _ _ _ _ _ _ _ _ _ _ (Kd.C_below HR0.out HB.out) HC0.out (Kd.C_below HR1.out HB.out) HC1.out (Kd.C_below HR2.out HB.out) HC2.out HT.out).mono ?_; rintro e w1 ⟨rfl, hb⟩; have n0_ := Aside0.mk (below_step HB.out hb); have n1_ := Aside0.mk (blk_below BK.out hb); have hr0 := (blk_cell n1_.out 0); have hr1 := (blk_cell n1_.out 1); have hr2 := (blk_cell n1_.out 2); simp at hr0 hr1 hr2; clear HB BK hq0 hq1 hq2; have HB := n0_; have BK := n1_; clear n0_ n1_ hb) | ((with_reducible refine gate_dst (N := 25) rfl ?_); refine Kd.R_lit Kd.bool _ 4 ?hg (N := 25) ?hd (xs := ([false] : List Bool)) (inner := [.bool false]) (ok := fun _ => True) (okp := fun _ => True) ?hr ?hp (fun _ hk => hk) trivial (Below.refl _ _) (Nat.le_refl _) (by simp) ?_; (case hd => rfl); (case hg => rfl); (case hr => first | (go_simp; done) | (go_simp; rfl)); (case hp => exact (Reps.one (show Kd.M Kd.bool _ _ _ false [.bool false] from rfl) (Reps.none _ _))); intro v1 w5 ho6 hb hg_ hnew_; clear hg_ hnew_; have n0_ := Aside0.mk (Kd.R_lower ho6 (below_size HB.out)); have n1_ := Aside0.mk (blk_below BK.out hb); have n2_ := Aside0.mk (below_step HB.out hb); have hs0 := (blk_cell n1_.out 0); have hs1 := (blk_cell n1_.out 1); have hs2 := (blk_cell n1_.out 2); simp at hs0 hs1 hs2; clear BK HB hr0 hr1 hr2; have HO := n0_; have BK := n1_; have HB := n2_; clear n0_ n1_ n2_ hb ho6) | ((with_reducible refine gate_builtin (b := .append) (xs := #[.tmp 25, .tmp 26]) rfl ?_); at_builtin; go_loud (refine Kd.R_append_rows Kd.bool (w0 := w) w.heap.size rfl (.tmp 25) (.tmp 26) 50 4 (.bool false) 1 rfl Tryd.underlying50 info4 rfl q33_ q29_ v1 [false] l1 _ _ _ (fun _ => True) (fun _ => False) rfl rfl ?aO ?aR (fun _ _ h => h) (fun _ h => h.elim) ?aF ?aB ?aS ?aL ?_); (case aR => exact (Kd.C_below HR3.out HB.out)); (case aB => exact HB.out); (case aF => exact (fun _ _ => trivial)); (case aO => exact HO.out); (case aS => exact below_size HB.out); (case aL => have := LM.out; simp; omega); intro v2 w7 ho hb hg hat; rw [← NX.out] at ho; obtain ⟨A2, c2, ev2⟩ := Kd.R_slice ho; subst ev2; have n0_ := Aside0.mk (blk_grown BK.out hg (Kd.R_ne HO.out BK.out q33_)); have n1_ := Aside0.mk hb; have n2_ := Aside0.mk ho; have ht0 := (blk_cell n0_.out 0); have ht1 := (blk_cell n0_.out 1); have ht2 := (blk_cell n0_.out 2); simp at ht0 ht1 ht2; have hlt := blk_lt n0_.out; clear BK HB HO hs0 hs1 hs2; have BK := n0_; have HB := n1_; have HO := n2_; clear n0_ n1_ n2_ ho hb hg hat))
  obtain ⟨B, hB⟩ : ∃ B : Nat, B = w7.heap.size := ⟨_, rfl⟩
  have HO1 := Aside0.mk (Kd.R_alloc HO.out (.cells #[.slice A2 xs.length c2] 50))
  have BV1 := Aside0.mk (show (w7.alloc (.cells #[.slice A2 xs.length c2] 50)).heap[B]? = some (.cells #[.slice A2 xs.length c2] 50 (0, 0)) by rw [hB]; exact blk_new _ _)
  have BK1 := Aside0.mk (blk_alloc BK.out (.cells #[.slice A2 xs.length c2] 50))
  have HB1 := Aside0.mk (below_alloc HB.out (.cells #[.slice A2 xs.length c2] 50))
  have hlB : w.heap.size ≤ B := by rw [hB]; exact below_size HB.out
  have hgB : gb ≠ B := by rw [hB]; omega
  obtain ⟨wl, hwl⟩ : ∃ wl : World, wl = w7.alloc (.cells #[.slice A2 xs.length c2] 50) := ⟨_, rfl⟩
  rw [← hwl] at HO1 BV1 BK1 HB1
  rw [← hB, ← hwl]
  clear hB hwl ht0 ht1 ht2 hlt BK HB HO NX LM HR3 HT h1b h1c h1d
  have GW' := GW.out
  go_loopw [32] (fun v32 wr => ∃ (i : Nat) (ys : List Bool) (A : Option Addr) (c : Nat), v32 = .int .i64 i ∧ i ≤ l0_1.length ∧ Aside0 (gates_ ys (l0_1.drop i) = some V) ∧ Aside0 (Kd.R Kd.bool 4 wr w.heap.size (fun _ => True) (.slice A ys.length c) ys) ∧ Aside0 (wr.heap[B]? = some (.cells #[.slice A ys.length c] 50 (0, 0))) ∧ Aside0 (wr.heap[gb]? = some (.cells #[.slice A0_0 l0_0.length c0_0, .slice A0_1 l0_1.length c0_1, .slice A0_2 l0_2.length c0_2] 32 (0, 0))) ∧ Aside0 (Below w.heap.size w wr)) (fun v32 _ => l0_1.length - (intOf v32).toNat)
  case atStart => exact ⟨0, xs, A2, c2, rfl, Nat.zero_le _, HV2, HO1, BV1, BK1, HB1⟩
  case round =>
    obtain ⟨i, ys, A, c, rfl, hi, HG, HO, BV, BK, HB⟩ := hrel
    by_cases hlt : i < l0_1.length
    · have hd : l0_1.drop i = rd_T49 l0_1 i :: l0_1.drop (i + 1) := by
        rw [List.drop_eq_getElem_cons hlt]
        simp [rd_T49, List.getD_eq_getElem?_getD, hlt]
      have hG := HG.out
      rw [hd, gates_] at hG
      obtain ⟨x, hx, hG⟩ := Option.bind_eq_some_iff.mp hG
      obtain ⟨y, hy, hG⟩ := Option.bind_eq_some_iff.mp hG
      by_cases hlim : ys.length < 140737488355328
      · rw [if_pos hlim] at hG
        obtain ⟨ad, e, hg0, hg1⟩ := at_T49 HR1.out (i : Int) q29_ q29_
        cases e
        replace hg0 := (HB.out.cell (World.block_lt_of_cell? w _ hg0)).trans hg0
        replace hg1 := (HB.out.cell (World.block_lt_of_cell? w _ hg1)).trans hg1
        simp only [Int.toNat_natCast] at hg0 hg1
        have hcb := blk_cell BV.out 0
        have hfb := blk_frozen BV.out 0
        simp at hcb
        have hltB := blk_lt BV.out
        have HX := Aside0.mk hx
        have HY := Aside0.mk hy
        have HG' := Aside0.mk hG
        have HL := Aside0.mk hlim
        clear hx hy hG hlim hd HG
        go_upto_block 1 with fail
        go_cut [] (fun wq => ∃ (A' : Option Addr) (c' : Nat), Aside0 (Kd.R Kd.bool 4 wq w.heap.size (fun _ => True) (.slice A' (ys ++ [y]).length c') (ys ++ [y])) ∧ Aside0 (wq.heap[B]? = some (.cells #[.slice A' (ys ++ [y]).length c'] 50 (0, 0))) ∧ Aside0 (wq.heap[gb]? = some (.cells #[.slice A0_0 l0_0.length c0_0, .slice (some ad) l0_1.length c0_1, .slice A0_2 l0_2.length c0_2] 32 (0, 0))) ∧ Aside0 (Below w.heap.size w wq))
        case first =>
          go_wp2_with fail
          have HOg := Aside0.mk (Kd.R_alloc HO.out (.cells #[.int .i64 (rd_T49 l0_1 i).f0, .int .i64 (rd_T49 l0_1 i).f1] 49))
          have BVg := Aside0.mk (blk_alloc BV.out (.cells #[.int .i64 (rd_T49 l0_1 i).f0, .int .i64 (rd_T49 l0_1 i).f1] 49))
          have BKg := Aside0.mk (blk_alloc BK.out (.cells #[.int .i64 (rd_T49 l0_1 i).f0, .int .i64 (rd_T49 l0_1 i).f1] 49))
          have HBg := Aside0.mk (below_alloc HB.out (.cells #[.int .i64 (rd_T49 l0_1 i).f0, .int .i64 (rd_T49 l0_1 i).f1] 49))
          have BGg := Aside0.mk (blk_new wr (.cells #[.int .i64 (rd_T49 l0_1 i).f0, .int .i64 (rd_T49 l0_1 i).f1] 49))
          obtain ⟨G, hG2⟩ : ∃ G : Nat, G = wr.heap.size := ⟨_, rfl⟩
          obtain ⟨wg, hwg⟩ : ∃ wg : World, wg = wr.alloc (.cells #[.int .i64 (rd_T49 l0_1 i).f0, .int .i64 (rd_T49 l0_1 i).f1] 49) := ⟨_, rfl⟩
          rw [← hwg] at HOg BVg BKg HBg BGg
          rw [← hG2] at BGg
          rw [← hG2, ← hwg]
          have hBG : B ≠ G := by rw [hG2]; omega
          clear hG2 hwg HO BV BK HB hcb hfb hltB hg0 hg1
          have hltB := blk_lt BVg.out
          have hltG := blk_lt BGg.out
          have hcb := blk_cell BVg.out 0
          have hfb := blk_frozen BVg.out 0
          have hg0 := blk_cell BGg.out 0
          have hg1 := blk_cell BGg.out 1
          simp at hcb hg0 hg1
          clear HG'
          have BVd := Aside0.mk (blk_drew BVg.out)
          have BKd := Aside0.mk (blk_drew BKg.out)
          have BGd := Aside0.mk (blk_drew BGg.out)
          have HOd := Aside0.mk (Kd.R_drew HOg.out)
          have HBd := Aside0.mk (below_drew1 HBg.out)
          clear BVg BKg BGg HOg HBg hltB hltG hcb hfb hg0 hg1
          cases x with
          | true =>
            have HY2 := Aside0.mk (show at_ ys (rd_T49 l0_1 i).f1 = some y from HY.out)
            clear HY
            refine start_ (n := 14) (S := fun w' => w'.cell? ⟨B, 0, none⟩ = some (.slice A ys.length c) ∧ w'.cell? ⟨G, 0, none⟩ = some (.int .i64 (rd_T49 l0_1 i).f0) ∧ w'.cell? ⟨G, 1, none⟩ = some (.int .i64 (rd_T49 l0_1 i).f1)) (ds := [13]) #[false, false, false, false, false, false, false, false, false, false, false, false, false, false] q28_ rfl rfl ⟨(blk_cell BVd.out 0).trans rfl, (blk_cell BGd.out 0).trans rfl, (blk_cell BGd.out 1).trans rfl⟩ (fun hHeld => ?_); refine with_tabW run_tab11 run_bits11 (fun HT_ HW_ => ?_)
            generalize wg.drew = wd at BVd BKd HBd HOd BGd hHeld ⊢
            refine pz_ (i := 1) (N := some 37) (h := ?_)
            refine pz_ (i := 2) (N := some 38) (h := ?_)
            refine tz_ (i := 0) (N := some 36) (h := ?_)
            refine tz_ (i := 3) (N := some 39) (h := ?_)
            refine nz_ (i := 4) (N := some 40) (h := fun K hK => ?_)
            refine call_ (f := 37) #[.int .i64 (rd_T49 l0_1 i).f0, .pointer (some ⟨B, 0, none⟩)] (by rfl) rfl (by first | (go_simp; done) | (go_simp; rfl)) ?_
            refine (at_calls B A c ys (rd_T49 l0_1 i).f0 true wd hHeld.1 (Kd.R_reads' HOd.out).2.2 HX.out).mono ?_
            rintro e w' ⟨rfl, rfl⟩
            refine ⟨_, rfl, ?_⟩
            refine hK.out _ _ hHeld (fun hHeld => ?_)
            clear hK K
            refine mz_ (some 40) (h := ?_)
            refine pz_ (i := 5) (N := some 41) (h := ?_)
            refine pz_ (i := 6) (N := some 42) (h := ?_)
            refine pz_ (i := 7) (N := some 43) (h := ?_)
            refine tz_ (i := 8) (N := some 44) (h := ?_)
            refine nz_ (i := 9) (N := some 45) (h := fun K hK => ?_)
            refine call_ (f := 37) #[.int .i64 (rd_T49 l0_1 i).f1, .pointer (some ⟨B, 0, none⟩)] (by rfl) rfl (by first | (go_simp; done) | (go_simp; rfl)) ?_
            refine (at_calls B A c ys (rd_T49 l0_1 i).f1 y wd hHeld.1 (Kd.R_reads' HOd.out).2.2 HY2.out).mono ?_
            rintro e w' ⟨rfl, rfl⟩
            refine ⟨_, rfl, ?_⟩
            refine hK.out _ _ hHeld (fun hHeld => ?_)
            clear hK K
            refine mz_ (some 45) (h := ?_)
            refine pz_ (i := 10) (N := some 46) (h := ?_)
            refine nz_ (i := 11) (N := some 47) (h := fun K hK => ?_)
            refine vz_ (h := ?_)
            refine hK.out _ _ ⟨(blk_cell (blk_alloc BVd.out _) 0).trans rfl, (blk_cell (blk_alloc BGd.out _) 0).trans rfl, (blk_cell (blk_alloc BGd.out _) 1).trans rfl⟩ (fun hHeld => ?_)
            clear hK K
            refine mz_ (some 47) (h := ?_)
            refine nz_ (i := 12) (N := some 48) (h := fun K hK => ?_)
            refine Kd.R_append_step Kd.bool (w0 := w) w.heap.size (by rfl) (.tmp 36) (.tmp 47) 50 4 (.bool false) 1 rfl Tryd.underlying50 info4 rfl q33_ q29_ (.slice A ys.length c) ys y [.bool y] (fun _ => True) (fun _ => False) rfl rfl ?aP (fun _ hk => hk.elim) ?aF ?aO ?aB ?aS ?aL ?_
            (case aP => exact rfl)
            (case aF => exact (fun _ _ => trivial))
            (case aO => exact HOd.out)
            (case aB => exact HBd.out)
            (case aS => exact (below_size HBd.out))
            (case aL => have := HL.out; omega)
            intro v9 w9 ho hb hg hat
            obtain ⟨A9, c9, ev9⟩ := Kd.R_slice ho
            subst ev9
            have BV9 := Aside0.mk (blk_grown BVd.out hg (Kd.R_ne HOd.out BVd.out q33_))
            have BK9 := Aside0.mk (blk_grown BKd.out hg (Kd.R_ne HOd.out BKd.out q33_))
            have BG9 := Aside0.mk (blk_grown BGd.out hg (Kd.R_ne HOd.out BGd.out q33_))
            have HB9 := Aside0.mk hb
            have HO9 := Aside0.mk ho
            clear ho hb hg hat
            refine hK.out _ _ ⟨(blk_cell BV9.out 0).trans rfl, (blk_cell BG9.out 0).trans rfl, (blk_cell BG9.out 1).trans rfl⟩ (fun hHeld => ?_)
            clear hK K
            refine mz_ (some 48) (h := ?_)
            refine last_ (i := 13) (N := none) #[true, true, true, true, true, true, true, true, true, true, true, true, true, true] rfl rfl (one_of HT_.out q28_) q33_ (fun K hK => ?_)
            have hc9 : w9.cell? ⟨B, 0, none⟩ = some (.slice A ys.length c) := (blk_cell BV9.out 0).trans rfl
            have hf9 := blk_frozen BV9.out 0
            have hl9 := blk_lt BV9.out
            refine skip_ (w1 := ?_) (by rfl) rfl ?_ ?_
            rotate_left
            · go_simp
              rfl
            refine hK.out _ _ ?_
            clear hK K
            refine done_ (done_of HT_.out q28_) ?_
            go_wp2_with fail
            go_meet
            exact ⟨A9, c9, ⟨Kd.R_set HO9.out BV9.out q33_ 0 _⟩, ⟨by have z := blk_set BV9.out 0 (.slice A9 (ys.length + 1) c9); simpa using z⟩, ⟨blk_far BK9.out hgB _⟩, ⟨below_set HB9.out hlB⟩⟩
          | false =>
            obtain rfl : false = y := Option.some.inj HY.out
            clear HY
            refine start_ (n := 14) (S := fun w' => w'.cell? ⟨B, 0, none⟩ = some (.slice A ys.length c) ∧ w'.cell? ⟨G, 0, none⟩ = some (.int .i64 (rd_T49 l0_1 i).f0) ∧ w'.cell? ⟨G, 1, none⟩ = some (.int .i64 (rd_T49 l0_1 i).f1)) (ds := [13]) #[false, false, false, false, false, false, false, false, false, false, false, false, false, false] q28_ rfl rfl ⟨(blk_cell BVd.out 0).trans rfl, (blk_cell BGd.out 0).trans rfl, (blk_cell BGd.out 1).trans rfl⟩ (fun hHeld => ?_); refine with_tabW run_tab11 run_bits11 (fun HT_ HW_ => ?_)
            generalize wg.drew = wd at BVd BKd HBd HOd BGd hHeld ⊢
            refine pz_ (i := 1) (N := some 37) (h := ?_)
            refine pz_ (i := 2) (N := some 38) (h := ?_)
            refine tz_ (i := 0) (N := some 36) (h := ?_)
            refine tz_ (i := 3) (N := some 39) (h := ?_)
            refine nz_ (i := 4) (N := some 40) (h := fun K hK => ?_)
            refine call_ (f := 37) #[.int .i64 (rd_T49 l0_1 i).f0, .pointer (some ⟨B, 0, none⟩)] (by rfl) rfl (by first | (go_simp; done) | (go_simp; rfl)) ?_
            refine (at_calls B A c ys (rd_T49 l0_1 i).f0 false wd hHeld.1 (Kd.R_reads' HOd.out).2.2 HX.out).mono ?_
            rintro e w' ⟨rfl, rfl⟩
            refine ⟨_, rfl, ?_⟩
            refine hK.out _ _ hHeld (fun hHeld => ?_)
            clear hK K
            refine mz_ (some 40) (h := ?_)
            refine pz_ (i := 5) (N := some 41) (h := ?_)
            refine oz_ (i := 6) (N := some 42) (h := ?_)
            refine oz_ (i := 7) (N := some 43) (h := ?_)
            refine oz_ (i := 8) (N := some 44) (h := ?_)
            refine oz_ (i := 9) (N := some 45) (h := ?_)
            refine pz_ (i := 10) (N := some 46) (h := ?_)
            refine nz_ (i := 11) (N := some 47) (h := fun K hK => ?_)
            refine vz_ (h := ?_)
            refine hK.out _ _ ⟨(blk_cell (blk_alloc BVd.out _) 0).trans rfl, (blk_cell (blk_alloc BGd.out _) 0).trans rfl, (blk_cell (blk_alloc BGd.out _) 1).trans rfl⟩ (fun hHeld => ?_)
            clear hK K
            refine mz_ (some 47) (h := ?_)
            refine nz_ (i := 12) (N := some 48) (h := fun K hK => ?_)
            refine Kd.R_append_step Kd.bool (w0 := w) w.heap.size (by rfl) (.tmp 36) (.tmp 47) 50 4 (.bool false) 1 rfl Tryd.underlying50 info4 rfl q33_ q29_ (.slice A ys.length c) ys false [.bool false] (fun _ => True) (fun _ => False) rfl rfl ?aP (fun _ hk => hk.elim) ?aF ?aO ?aB ?aS ?aL ?_
            (case aP => exact rfl)
            (case aF => exact (fun _ _ => trivial))
            (case aO => exact HOd.out)
            (case aB => exact HBd.out)
            (case aS => exact (below_size HBd.out))
            (case aL => have := HL.out; omega)
            intro v9 w9 ho hb hg hat
            obtain ⟨A9, c9, ev9⟩ := Kd.R_slice ho
            subst ev9
            have BV9 := Aside0.mk (blk_grown BVd.out hg (Kd.R_ne HOd.out BVd.out q33_))
            have BK9 := Aside0.mk (blk_grown BKd.out hg (Kd.R_ne HOd.out BKd.out q33_))
            have BG9 := Aside0.mk (blk_grown BGd.out hg (Kd.R_ne HOd.out BGd.out q33_))
            have HB9 := Aside0.mk hb
            have HO9 := Aside0.mk ho
            clear ho hb hg hat
            refine hK.out _ _ ⟨(blk_cell BV9.out 0).trans rfl, (blk_cell BG9.out 0).trans rfl, (blk_cell BG9.out 1).trans rfl⟩ (fun hHeld => ?_)
            clear hK K
            refine mz_ (some 48) (h := ?_)
            refine last_ (i := 13) (N := none) #[true, true, true, true, true, true, true, true, true, true, true, true, true, true] rfl rfl (one_of HT_.out q28_) q33_ (fun K hK => ?_)
            have hc9 : w9.cell? ⟨B, 0, none⟩ = some (.slice A ys.length c) := (blk_cell BV9.out 0).trans rfl
            have hf9 := blk_frozen BV9.out 0
            have hl9 := blk_lt BV9.out
            refine skip_ (w1 := ?_) (by rfl) rfl ?_ ?_
            rotate_left
            · go_simp
              rfl
            refine hK.out _ _ ?_
            clear hK K
            refine done_ (done_of HT_.out q28_) ?_
            go_wp2_with fail
            go_meet
            exact ⟨A9, c9, ⟨Kd.R_set HO9.out BV9.out q33_ 0 _⟩, ⟨by have z := blk_set BV9.out 0 (.slice A9 (ys.length + 1) c9); simpa using z⟩, ⟨blk_far BK9.out hgB _⟩, ⟨below_set HB9.out hlB⟩⟩
        case rest =>
          obtain ⟨A', c', HOq, BVq, BKq, HBq⟩ := hcut
          go_wp2
          go_roundw
          case rel => exact ⟨i + 1, ys ++ [y], A', c', by go_num, by omega, HG', HOq, BVq, BKq, HBq⟩
          case measure => simp [intOf]; omega
      · rw [if_neg hlim] at hG; cases hG
    · have hie : l0_1.drop i = [] := List.drop_eq_nil_of_le q29_
      have hG := HG.out
      rw [hie, gates_] at hG
      obtain rfl := Option.some.inj hG
      clear hie hG HG
      have hltb : decide ((i : Int) < (l0_1.length : Int)) = false := decide_eq_false q29_
      have hk2 := blk_cell BK.out 2
      simp at hk2
      go_wp2_with fail
      clear hk2 BK hltb
      have HO3 := Aside0.mk (Kd.R_nil Kd.bool 4 wr w.heap.size (fun k => some k ≠ (Value.slice A ys.length c).ownBlock))
      go_loopw [53, 11] (fun v53 v11 ws => ∃ (j : Nat) (acc : List Bool) (A3 : Option Addr) (c3 : Nat), v53 = .int .i64 j ∧ v11 = .slice A3 acc.length c3 ∧ j ≤ l0_2.length ∧ Aside0 (outs_ ys acc (l0_2.drop j) = some O) ∧ Aside0 (Kd.R Kd.bool 4 ws w.heap.size (fun _ => True) (.slice A ys.length c) ys) ∧ Aside0 (Kd.R Kd.bool 4 ws w.heap.size (fun k => some k ≠ (Value.slice A ys.length c).ownBlock) (.slice A3 acc.length c3) acc) ∧ Aside0 (ws.heap[B]? = some (.cells #[.slice A ys.length c] 50 (0, 0))) ∧ Aside0 (Below w.heap.size w ws)) (fun v53 _ _ => l0_2.length - (intOf v53).toNat)
      case atStart => exact ⟨0, [], none, 0, rfl, rfl, Nat.zero_le _, HOut, HO, HO3, BV, HB⟩
      case round =>
        clear HO BV HB HO3
        obtain ⟨j, acc, A3, c3, rfl, rfl, hj, HG, HO, HO3, BV, HB⟩ := hrel
        by_cases hjl : j < l0_2.length
        · have hd : l0_2.drop j = rdOf 0 l0_2 (j : Int) :: l0_2.drop (j + 1) := by
            rw [List.drop_eq_getElem_cons hjl]
            simp [rdOf, List.getD_eq_getElem?_getD, hjl]
          have hG := HG.out
          rw [hd, outs_] at hG
          obtain ⟨x, hx, hG⟩ := Option.bind_eq_some_iff.mp hG
          by_cases hlim : acc.length < 140737488355328
          · rw [if_pos hlim] at hG
            obtain ⟨ad, c', e, h2, hK, hcell⟩ := Kd.C_get HR2.out 0 (j : Int) q29_ q29_
            have hc0 : w.cell? (ad.add ((j : Int)).toNat) = some (.int .i64 (rdOf 0 l0_2 (j : Int))) := by
              obtain rfl : c' = [.int .i64 (l0_2.getD ((j : Int)).toNat 0)] := hK
              have := hcell 0 _ rfl
              simpa [show (Kd.int .i64).sz = 1 from rfl, rdOf] using this
            cases e
            clear hcell hK h2
            replace hc0 := (HB.out.cell (World.block_lt_of_cell? w _ hc0)).trans hc0
            simp only [Int.toNat_natCast] at hc0
            have HX := Aside0.mk hx
            have HG' := Aside0.mk hG
            have HL := Aside0.mk hlim
            clear hx hG hlim hd HG
            have hcb := blk_cell BV.out 0
            simp at hcb
            have hjb : decide ((j : Int) < (l0_2.length : Int)) = true := decide_eq_true q29_
            go_wp2_with (first | (go_at_call 37; (with_reducible refine (at_calls B A c ys (rdOf 0 l0_2 (j : Int)) x _ ?c1 ?c2 HX.out).mono ?_); (case c1 => exact (blk_cell BV.out 0).trans rfl); (case c2 => exact (Kd.R_reads' HO.out).2.2); rintro e w' ⟨rfl, rfl⟩) | ((with_reducible refine gate_builtin (b := .append) (xs := #[.tmp 57, .tmp 61]) rfl ?_); at_builtin; refine Kd.R_append Kd.bool (w0 := w) w.heap.size rfl (.tmp 57) (.tmp 61) 50 4 (.bool false) 1 rfl Tryd.underlying50 info4 rfl q33_ q29_ (.slice A3 acc.length c3) acc x [.bool x] (fun k => some k ≠ (Value.slice A ys.length c).ownBlock) (fun _ => False) rfl rfl ?aP (fun _ hk => hk.elim) ?aF ?aO ?aB ?aS ?aL ?_; (case aP => exact rfl); (case aB => exact HB.out); (case aO => exact HO3.out); (case aS => exact below_size HB.out); (case aL => have := HL.out; omega); (case aF => exact fun k hk => fresh_ HO.out hk); intro v9 w9 ho hb hg hat; obtain ⟨A9, c9, ev9⟩ := Kd.R_slice ho; subst ev9; have BV9 := Aside0.mk (blk_grown BV.out hg (Kd.R_ne HO3.out BV.out q33_)); have HB9 := Aside0.mk hb; have HN9 := Aside0.mk ho; have HY9 := Aside0.mk (Kd.R_grown2 HO.out rfl hg (fun k hk => HO3.out.1 k hk)); clear ho hb hg hat))
            go_roundw
            case rel => exact ⟨j + 1, acc ++ [x], A9, c9, by go_num, by simp, by omega, HG', HY9, HN9, BV9, HB9⟩
            case measure => simp [intOf]; omega
          · rw [if_neg hlim] at hG; cases hG
        · have hie : l0_2.drop j = [] := List.drop_eq_nil_of_le q29_
          have hG := HG.out
          rw [hie, outs_] at hG
          obtain rfl := Option.some.inj hG
          clear hie hG HG
          have hltb : decide ((j : Int) < (l0_2.length : Int)) = false := decide_eq_false q29_
          go_wp2_with fail
          go_ret2
          exact ⟨_, rfl, Kd.R_mono HO3.out (fun _ _ => trivial), HB.out⟩

set_option maxHeartbeats 1000000 in
set_option maxRecDepth 100000 in
theorem blast_Run.calls (k : Nat) (A0_0 : Option Addr) (c0_0 : Nat) (l0_0 : List (S44)) (A0_1 : Option Addr) (c0_1 : Nat) (l0_1 : List (S49)) (A0_2 : Option Addr) (c0_2 : Nat) (l0_2 : List Int) (A1 : Option Addr) (c1 : Nat) (l1 : List Bool) (r1 : List Bool) (r2 : Int) (w : World) (hr0_0 : Kd.C k44 w A0_0 l0_0.length l0_0) (hc0_0 : l0_0.length ≤ c0_0) (hr0_1 : Kd.C k49 w A0_1 l0_1.length l0_1) (hc0_1 : l0_1.length ≤ c0_1) (hr0_2 : Kd.C (Kd.int .i64) w A0_2 l0_2.length l0_2) (hc0_2 : l0_2.length ≤ c0_2) (hr1 : Kd.C Kd.bool w A1 l1.length l1) (hc1 : l1.length ≤ c1) (h : blast_Run.f k l0_0 l0_1 l0_2 l1 = some (r1, r2)) :
    Calls Tryd.prog 15 #[.agg #[.slice A0_0 l0_0.length c0_0, .slice A0_1 l0_1.length c0_1, .slice A0_2 l0_2.length c0_2], .slice A1 l1.length c1] w fun e w' => ∃ v0_ : Value, e = .returned (.tuple #[v0_, .int .i64 r2]) ∧ Kd.R Kd.bool 4 w' w.heap.size (fun _ => True) v0_ r1 ∧ Below w.heap.size w w' := by
  have hu26 := Tryd.underlying32
  unfold blast_Run.f at h
  obtain ⟨t, ht, h⟩ := Option.bind_eq_some_iff.mp h
  have hm0 := hr0_0.2.1
  have hm1 := hr0_1.2.1
  have hm2 := hr0_2.2.1
  have hm3 := hr1.2.1
  have HR0 := Aside0.mk hr0_0
  have HR1 := Aside0.mk hr0_1
  have HR2 := Aside0.mk hr0_2
  have HR3 := Aside0.mk hr1
  have HC0 := Aside0.mk hc0_0
  have HC1 := Aside0.mk hc0_1
  have HC2 := Aside0.mk hc0_2
  have HC3 := Aside0.mk hc1
  have HT := Aside0.mk ht
  clear hr0_0 hr0_1 hr0_2 hr1 hc0_0 hc0_1 hc0_2 hc1 ht
  have B0 := Aside0.mk (below_alloc (Below.refl w.heap.size w) (.cells #[.slice A0_0 l0_0.length c0_0, .slice A0_1 l0_1.length c0_1, .slice A0_2 l0_2.length c0_2] 32))
  by_cases h0 : t = 0
  · subst h0
    rw [if_pos rfl] at h
    by_cases h1 : l1.length = l0_0.length
    · rw [if_pos h1] at h
      by_cases h2 : 1 + l1.length < 140737488355328
      · rw [if_pos h2] at h
        obtain ⟨V, hV, h⟩ := Option.bind_eq_some_iff.mp h
        obtain ⟨O, hO, h⟩ := Option.bind_eq_some_iff.mp h
        obtain ⟨rfl, rfl⟩ := Prod.mk.inj (Option.some.inj h)
        clear h
        have HV := Aside0.mk hV
        have HOut := Aside0.mk hO
        have LM := Aside0.mk h2
        clear hV hO h2
        exact blast_Run.main k A0_0 c0_0 l0_0 A0_1 c0_1 l0_1 A0_2 c0_2 l0_2 A1 c1 l1 V O w HR0.out HC0.out HR1.out HC1.out HR2.out HC2.out HR3.out HC3.out HT h1 LM HV HOut
      · rw [if_neg h2] at h; cases h
    · rw [if_neg h1] at h
      obtain ⟨rfl, rfl⟩ := Prod.mk.inj (Option.some.inj h)
      clear h
      have h1b : ((l1.length : Int) != (l0_0.length : Int)) = true := by rw [bne_iff_ne]; omega
      have h1c : (l1.length != l0_0.length) = true := by rw [bne_iff_ne]; omega
      have h1d : (l1.length == l0_0.length) = false := beq_eq_false_iff_ne.2 h1
      clear h1
      go_enter Tryd.func15, Tryd.ntmps15
      go_wp2_with (go_at_call 12; refine (blast_Check.calls k _ _ _ _ _ _ _ _ _ _ _ (Kd.C_below HR0.out B0.out) HC0.out (Kd.C_below HR1.out B0.out) HC1.out (Kd.C_below HR2.out B0.out) HC2.out HT.out).mono ?_; rintro e w1 ⟨rfl, hb⟩; have hc := hb.cell (p := ⟨w.heap.size, 0, none⟩) (by simp); have hd := hb.cell (p := ⟨w.heap.size, 1, none⟩) (by simp); have he := hb.cell (p := ⟨w.heap.size, 2, none⟩) (by simp); simp at hc hd he; have HB := Aside0.mk hb; clear hb)
      go_ret2
      exact ⟨_, rfl, Kd.R_nil _ _ _ _ _, (B0.out.trans (HB.out.mono (by simp)))⟩
  · rw [if_neg h0] at h
    obtain ⟨rfl, rfl⟩ := Prod.mk.inj (Option.some.inj h)
    clear h
    have h0b : (t != 0) = true := bne_iff_ne.mpr h0
    have h0c : (t == 0) = false := beq_eq_false_iff_ne.2 h0
    clear h0
    go_enter Tryd.func15, Tryd.ntmps15
    go_wp2_with (go_at_call 12; refine (blast_Check.calls k _ _ _ _ _ _ _ _ _ _ _ (Kd.C_below HR0.out B0.out) HC0.out (Kd.C_below HR1.out B0.out) HC1.out (Kd.C_below HR2.out B0.out) HC2.out HT.out).mono ?_; rintro e w1 ⟨rfl, hb⟩; have HB := Aside0.mk hb; clear hb)
    go_ret2
    exact ⟨_, rfl, Kd.R_nil _ _ _ _ _, (B0.out.trans (HB.out.mono (by simp)))⟩
theorem blast_Run.mono : ∀ a0 a1 a2 a3 k, LeO (blast_Run.f k a0 a1 a2 a3) (blast_Run.f (k + 1) a0 a1 a2 a3) := by
  intro a0 a1 a2 a3 k
  unfold blast_Run.f
  exact LeO.bind (blast_Check.mono a0 a1 a2 k) (fun _ => LeO.refl _)
end Go.Proofs.YtjopdafckhkmmaaDoor.MBS
