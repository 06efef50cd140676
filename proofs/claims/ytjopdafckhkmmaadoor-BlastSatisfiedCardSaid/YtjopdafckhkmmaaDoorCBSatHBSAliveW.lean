/- The chapter's example holds: the walk of alive, by hand. -/
import Derived.Test.YtjopdafckhkmmaaDoorCBSatHBSAlive
set_option linter.unusedVariables false
set_option linter.unusedSimpArgs false
namespace Go.Proofs.YtjopdafckhkmmaaDoor.MBS
open Go.Proofs.YtjopdafckhkmmaaDoor.Zed Go.RowKit Go.Proofs.YtjopdafckhkmmaaDoorW.PrintWords Go.Proofs.YtjopdafckhkmmaaDoorW.PrintLast Go.Proofs.YtjopdafckhkmmaaDoorW.PrintMore
attribute [local go_sem] Oper.semAt_some
theorem at_in0 {W : World} {A : Option Addr} (h : kC.C W A ins0.length ins0) : ∃ ad, A = some ad ∧ W.cell? ⟨ad.block, ad.off + 2, none⟩ = some (.string ⟨#[97]⟩) ∧ W.cell? ⟨ad.block, ad.off + 2 + 1, none⟩ = some (.int .i64 1) := by
  obtain ⟨ad, e, z0, z1⟩ := at_T44 h 1 q29_ q33_
  have e2 : ad.add ((1 : Int).toNat * 2) = ⟨ad.block, ad.off + 2, none⟩ := by
    show ad.add 2 = _
    simp [Addr.add]
  rw [e2] at z0 z1
  exact ⟨ad, e, z0, z1⟩
theorem sb4_calls (A : Option Addr) (c : Nat) (w6 : World) (hr : Kd.C Kd.bool w6 A 4 [true, true, false, true]) (hc : 4 ≤ c) :
    Calls Tryd.prog 18 #[.slice A 4 c, .slice (some ⟨w6.heap.size, 0, none⟩) 4 4] (w6.alloc (.cells #[.bool true, .bool true, .bool false, .bool true] 4)) fun e w' => e = .returned (.bool true) ∧ Below w6.heap.size w6 w' :=
  (retargetref04_SameBools.calls 10 A c [true, true, false, true] (some ⟨w6.heap.size, 0, none⟩) 4 [true, true, false, true] true _ (Kd.C_below hr (below_alloc (Below.refl _ _) _)) hc (bools_row _ _ [true, true, false, true] q33_ (blk_new w6 _)) (Nat.le_refl _) sb0).mono fun e w' ⟨h1, h2⟩ => ⟨h1, below_step (below_alloc (Below.refl _ _) _) h2.below⟩
theorem sb2_calls (A : Option Addr) (c : Nat) (w6 : World) (hr : Kd.C Kd.bool w6 A 2 [false, true]) (hc : 2 ≤ c) :
    Calls Tryd.prog 18 #[.slice A 2 c, .slice (some ⟨w6.heap.size, 0, none⟩) 2 2] (w6.alloc (.cells #[.bool false, .bool true] 4)) fun e w' => e = .returned (.bool true) ∧ Below w6.heap.size w6 w' :=
  (retargetref04_SameBools.calls 10 A c [false, true] (some ⟨w6.heap.size, 0, none⟩) 2 [false, true] true _ (Kd.C_below hr (below_alloc (Below.refl _ _) _)) hc (bools_row _ _ [false, true] q33_ (blk_new w6 _)) (Nat.le_refl _) sb1).mono fun e w' ⟨h1, h2⟩ => ⟨h1, below_step (below_alloc (Below.refl _ _) _) h2.below⟩
theorem env_new (W : World) : ∀ cc, ((W.alloc cc).alloc (.cells #[.string ⟨#[97]⟩, .int .i64 2, .int .u64 3, .string ⟨#[98]⟩, .int .i64 2, .int .u64 2] 40)).heap[W.heap.size + 1]? = some (.cells #[.string ⟨#[97]⟩, .int .i64 2, .int .u64 3, .string ⟨#[98]⟩, .int .i64 2, .int .u64 2] 40 (0, 0)) := fun cc => by
  have := blk_new (W.alloc cc) (.cells #[.string ⟨#[97]⟩, .int .i64 2, .int .u64 3, .string ⟨#[98]⟩, .int .i64 2, .int .u64 2] 40)
  simpa using this
def retargetlaw04_alive.f : Option Bool := some true
set_option maxRecDepth 100000 in
set_option maxHeartbeats 4000000 in
theorem alive_any (w : World) (hT : Tab w) : Calls Tryd.prog 6 #[] w fun e w' => e = .returned (.bool true) ∧ Below w.heap.size w w' := by
  have HT := Aside0.mk hT
  have HB := Aside0.mk (Below.refl w.heap.size w)
  have hu := Tryd.underlying25
  have hu2 := Tryd.underlying32
  have hu3 := Tryd.underlying40
  have hu4 := Tryd.underlying44
  have heq : ∀ W : World, (binOp .eql 44 (.agg #[.string ⟨#[97]⟩, .int .i64 1]) (.agg #[.string ⟨#[97]⟩, .int .i64 1])).run Tryd.prog W = .ok (.bool true) W := fun W => by kernel_rfl
  have hlb : (1 : Int) < (ins0.length : Int) := by decide
  have hlc : 1 < ins0.length := by decide
  clear hT
  go_enter Tryd.func6, Tryd.ntmps6
  go_wp2_with (first | (go_at_call 13; refine (variable_any _ _ _).mono ?_; rintro e w1 ⟨rfl, hb⟩; have n0_ := Aside0.mk (below_step HB.out hb); clear HB hb; have HB := n0_; clear n0_) | (go_at_call 14; refine (op_any _ _ _ _ _ _).mono ?_; rintro e w3 ⟨rfl, hb⟩; have HK3 := Aside0.mk (k25_mk w3 t0 (Nat.le_refl _) (terms_row w3 _ (blk_below (blk_new _ _) hb))); have n0_ := Aside0.mk (below_step (below_alloc HB.out _) hb); clear HB hb; have HB := n0_; clear n0_) | (go_at_call 8; refine (blast0 none 0 0 _ _ HK3.out (HT.out.below HB.out)).mono ?_; rintro e w4 ⟨hb, vI, vG, vO, rfl, hrI, hrG, hrO⟩; obtain ⟨AI, cI, rfl⟩ := Kd.R_slice hrI; obtain ⟨AG, cG, rfl⟩ := Kd.R_slice hrG; obtain ⟨AO, cO, rfl⟩ := Kd.R_slice hrO; have HCI := Aside0.mk (Kd.R_reads' hrI).2.2; have HCG := Aside0.mk (Kd.R_reads' hrG).2.2; have HCO := Aside0.mk (Kd.R_reads' hrO).2.2; have HLI := Aside0.mk (Kd.R_reads' hrI).2.1; have HLG := Aside0.mk (Kd.R_reads' hrG).2.1; have HLO := Aside0.mk (Kd.R_reads' hrO).2.1; have n0_ := Aside0.mk (below_step HB.out hb); have HEnv := Aside0.mk (env_new w4); clear HB hb hrI hrG hrO; have HB := n0_; clear n0_) | (go_at_call 16; refine (blast_Inputs.calls 40 AI cI ins0 AG cG gs0 AO cO [10, 12] (some ⟨w4.heap.size + 1, 0, none⟩) 2 env0 _ _ _ (Kd.C_below HCI.out (below_alloc (below_alloc (Below.refl _ _) _) _)) HLI.out (Kd.C_below HCG.out (below_alloc (below_alloc (Below.refl _ _) _) _)) HLG.out (Kd.C_below HCO.out (below_alloc (below_alloc (Below.refl _ _) _) _)) HLO.out (env_row _ _ (HEnv.out _)) (Nat.le_refl _) in0).mono ?_; rintro e w5 ⟨v5, rfl, hr5, hb5⟩; obtain ⟨A5, c5, rfl⟩ := Kd.R_slice hr5; have hbb := below_step (below_alloc (below_alloc (Below.refl w4.heap.size w4) _) _) hb5; have BC5 := Aside0.mk (blk_below (blk_alloc (blk_new w4 _) _) hb5); have HI5 := Aside0.mk (Kd.C_below HCI.out hbb); have HG5 := Aside0.mk (Kd.C_below HCG.out hbb); have HO5 := Aside0.mk (Kd.C_below HCO.out hbb); have H5 := Aside0.mk (Kd.R_reads' hr5).2; have n0_ := Aside0.mk (below_step (below_alloc (below_alloc HB.out _) _) hb5); clear HB hb5 hbb hr5; have HB := n0_; clear n0_; have y0 := (blk_cell BC5.out 0).trans (show _ = some (Value.slice AI ins0.length cI) from rfl); have y1 := (blk_cell BC5.out 1).trans (show _ = some (Value.slice AG gs0.length cG) from rfl); have y2 := (blk_cell BC5.out 2).trans (show _ = some (Value.slice AO ([10, 12] : List Int).length cO) from rfl)) | (go_at_call 15; refine (blast_Run.calls 40 AI cI ins0 AG cG gs0 AO cO [10, 12] A5 c5 [true, true, false, true] _ _ _ HI5.out HLI.out HG5.out HLG.out HO5.out HLO.out H5.out.2 H5.out.1 run0).mono ?_; rintro e w6 ⟨v6, rfl, hr6, hb6⟩; obtain ⟨A6, c6, rfl⟩ := Kd.R_slice hr6; have BC6 := Aside0.mk (blk_below BC5.out hb6); have HI6 := Aside0.mk (Kd.C_below HI5.out hb6); have H56 := Aside0.mk (show Kd.C Kd.bool w6 A5 4 [true, true, false, true] from Kd.C_below H5.out.2 hb6); have H6 := Aside0.mk (Kd.R_reads' hr6).2; have n0_ := Aside0.mk (below_step HB.out hb6); clear HB hb6 hr6 y0 y1 y2; have HB := n0_; clear n0_; obtain ⟨ad, rfl, z0, z1⟩ := at_in0 HI6.out; have y0 := (blk_cell BC6.out 0).trans (show _ = some (Value.slice (some ad) ins0.length cI) from rfl); have H5L := Aside0.mk (show 4 ≤ c5 from H5.out.1); have H6L := Aside0.mk (show 2 ≤ c6 from H6.out.1)) | (go_at_call 18; ((with_reducible refine (sb4_calls A5 c5 w6 H56.out H5L.out).mono ?_); rintro e w7 ⟨rfl, hb7⟩; have H67 := Aside0.mk (show Kd.C Kd.bool w7 A6 2 [false, true] from Kd.C_below H6.out.2 hb7); have n0_ := Aside0.mk (below_step HB.out hb7); clear HB hb7; have HB := n0_; clear n0_)) | (go_at_call 18; ((with_reducible refine (sb2_calls A6 c6 w7 H67.out H6L.out).mono ?_); rintro e w8 ⟨rfl, hb8⟩; have n0_ := Aside0.mk (below_step HB.out hb8); clear HB hb8; have HB := n0_; clear n0_)))
  go_ret
  exact ⟨rfl, HB.out⟩
theorem retargetlaw04_alive.calls (r : Bool) (w : World) (hT : Tab w) (h : retargetlaw04_alive.f = some r) : Calls Tryd.prog 6 #[] w fun e w' => e = .returned (.bool r) ∧ Below w.heap.size w w' := by
  obtain rfl := Option.some.inj h
  exact alive_any w hT
end Go.Proofs.YtjopdafckhkmmaaDoor.MBS
