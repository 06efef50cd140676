/- term.node by hand. Condition of the lemma: the table term.shapes lies as the program lays it (Tab). -/
import Derived.Test.YtjopdafckhkmmaaDoorCBSatHBSTermNode
import Derived.Test.YtjopdafckhkmmaaDoorCBSatMBSx2
import Derived.Test.YtjopdafckhkmmaaDoorCBSatMBSx1
set_option linter.unusedVariables false
set_option linter.unusedSimpArgs false
namespace Go.Proofs.YtjopdafckhkmmaaDoor.MBS
open Go.Proofs.YtjopdafckhkmmaaDoor.Zed Go.RowKit Go.Proofs.YtjopdafckhkmmaaDoorW.PrintWords Go.Proofs.YtjopdafckhkmmaaDoorW.PrintLast Go.Proofs.YtjopdafckhkmmaaDoorW.PrintMore
def widthsB (x : Tm) : Int → Bool
  | 1 => !decide (0 ≤ idxW x.f5 x.f1 0)
  | 2 => (x.f1 == 1) && ((rd_T25 x.f5 1).f1 == (rd_T25 x.f5 0).f1)
  | 3 => ((rd_T25 x.f5 0).f1 == 1) && (((rd_T25 x.f5 1).f1 == x.f1) && ((rd_T25 x.f5 2).f1 == x.f1))
  | 4 => wideB (rd_T25 x.f5 0).f1 && (wideB (rd_T25 x.f5 1).f1 && ((rd_T25 x.f5 0).f1 + (rd_T25 x.f5 1).f1 == x.f1))
  | 5 => decide (0 ≤ x.f4) && (wideB (rd_T25 x.f5 0).f1 && (decide (x.f1 ≤ (rd_T25 x.f5 0).f1) && decide (x.f4 ≤ (rd_T25 x.f5 0).f1 - x.f1)))
  | 6 => decide ((rd_T25 x.f5 0).f1 ≤ x.f1)
  | _ => loadB x.f1
theorem sh_range : ∀ k : Nat, k < 25 → 0 < shP k → (shH k = 1 ∧ 1 ≤ shP k) ∨ (shH k = 2 ∧ 2 ≤ shP k) ∨ (shH k = 3 ∧ 3 ≤ shP k) ∨ (shH k = 4 ∧ 2 ≤ shP k) ∨ (shH k = 5 ∧ 1 ≤ shP k) ∨ (shH k = 6 ∧ 1 ≤ shP k) ∨ (shH k = 7 ∧ 1 ≤ shP k) := by decide
theorem widths_calls (k : Nat) (x : Tm) (cs : List Value) (w : World) (hK : kT.K w x cs) (hk : k < 25) (hp : 0 < shP k) (hl : (x.f5.length : Int) = shP k) (h0 : 1 ≤ x.f1) (h1 : x.f1 ≤ 64) :
    Calls Tryd.prog 76 #[.agg cs.toArray, .int .i64 (shH k)] w fun e w' => e = .returned (.bool (widthsB x (shH k))) ∧ Below w.heap.size w w' := by
  rcases sh_range k hk hp with ⟨h, h'⟩ | ⟨h, h'⟩ | ⟨h, h'⟩ | ⟨h, h'⟩ | ⟨h, h'⟩ | ⟨h, h'⟩ | ⟨h, h'⟩ <;> rw [h]
  · exact widths1_calls x cs w hK q29_
  · exact widths2_calls x cs w hK q29_
  · exact widths3_calls x cs w hK q29_
  · exact widths4_calls x cs w hK q29_
  · exact widths5_calls x cs w hK q29_ h0 h1
  · exact widths6_calls x cs w hK q29_
  · exact widths7_calls x cs w hK q29_
theorem str_nil (s : ByteArray) : s.toList = [] ↔ s.size = 0 := by
  rw [ByteArray.toList_eq, show s.size = s.data.size from rfl, ← Array.length_toList, List.length_eq_zero_iff]
/-- What node answers. -/
def nodeF (k : Nat) (x : Tm) : Option Bool :=
  if wideB x.f1 = true then
    if 0 < shP x.f0.toNat then
      (if x.f2 = 0 then (if x.f3.size = 0 then (if x.f4 = 0 ∨ shH x.f0.toNat = 5 then (if (x.f5.length : Int) = shP x.f0.toNat then some (widthsB x (shH x.f0.toNat)) else some false) else some false) else some false) else some false)
    else
      (if x.f5.length = 0 then (if x.f4 = 0 then
        (if x.f0 = 1 then (if x.f3.size = 0 then bits_Ok.f x.f1 x.f2 else some false) else if x.f0 = 2 then (if x.f2 = 0 then term_variable.f k x.f3 else some false) else some false)
      else some false) else some false)
  else some false
set_option maxRecDepth 100000 in
set_option maxHeartbeats 4000000 in
theorem node_calls (k : Nat) (x : Tm) (cs : List Value) (r : Bool) (w : World) (hK : kT.K w x cs) (hT : Tab w) (h0 : 0 ≤ x.f0) (h1 : x.f0 < 256) (h : nodeF k x = some r) :
    Calls Tryd.prog 54 #[.agg cs.toArray] w fun e w' => e = .returned (.bool r) ∧ Below w.heap.size w w' := by
  obtain ⟨kn, hkn⟩ : ∃ kn : Nat, x.f0 = (kn : Int) := ⟨x.f0.toNat, by omega⟩
  have HK := Aside0.mk hK
  obtain ⟨A5, c5, rfl, l5, g5⟩ := k25_open hK
  have hu25 := Tryd.underlying25
  have hm := g5.2.1
  have HT := Aside0.mk hT
  unfold nodeF at h
  clear hK hT g5
  cases hw : wideB x.f1 with
  | false =>
    rw [hw, if_neg q33_] at h
    obtain rfl := Option.some.inj h
    have hw0 : ∀ W : World, Calls Tryd.prog 74 #[.int .i64 x.f1] W fun e w' => e = .returned (.bool false) ∧ w' = W := fun W => by have h := wide_same x.f1 W; rwa [hw] at h
    clear h
    go_enter Tryd.func54, Tryd.ntmps54
    go_wp2_with (go_at_call 74; with_reducible refine (hw0 _).mono ?_; rintro e w' ⟨rfl, rfl⟩)
    go_ret
    exact ⟨rfl, below_alloc (Below.refl _ _) _⟩
  | true =>
    rw [hw, if_pos rfl] at h
    obtain ⟨hx0, hx1⟩ := wideB_range hw
    have hw0 : ∀ W : World, Calls Tryd.prog 74 #[.int .i64 x.f1] W fun e w' => e = .returned (.bool true) ∧ w' = W := fun W => by have h := wide_same x.f1 W; rwa [hw] at h
    clear hw
    have HH := Aside0.mk h
    clear h
    obtain ⟨s, hs⟩ : ∃ s, s = shW kn := ⟨_, rfl⟩
    obtain ⟨p, hp⟩ : ∃ p, p = shP kn := ⟨_, rfl⟩
    obtain ⟨q, hq⟩ : ∃ q, q = shH kn := ⟨_, rfl⟩
    have hsh : ∀ W : World, Tab W → Calls Tryd.prog 75 #[.int .u8 kn] W fun e w' => e = .returned (.tuple #[.agg #[.string s, .int .i64 p, .int .i64 q], .bool (decide (0 < p))]) ∧ Below W.heap.size W w' := fun W hTW => by rw [hs, hp, hq]; exact shaped_calls kn q29_ W hTW
    have HSH := Aside0.mk hsh
    clear hsh
    go_enter Tryd.func54, Tryd.ntmps54
    rw [hkn]
    go_wp2_with (first | (go_at_call 74; with_reducible refine (hw0 _).mono ?_; rintro e w' ⟨rfl, rfl⟩))
    refine (HSH.out _ (HT.out.below (below_alloc (Below.refl _ _) _))).mono ?_
    rintro e W3 ⟨rfl, hb3⟩
    have hbox := (hb3.block w.heap.size (by simp)).trans (blk_new w (.cells #[.int .u8 kn, .int .i64 x.f1, .int .u64 x.f2, .string x.f3, .int .i64 x.f4, .slice A5 x.f5.length c5] 25))
    have hB3 := below_step (below_alloc (Below.refl _ _) _) hb3
    obtain ⟨g, hg⟩ : ∃ g, g = w.heap.size := ⟨_, rfl⟩
    rw [← hg] at hbox
    rw [← hg]
    have z0 := (blk_cell hbox 0).trans (show _ = some (Value.int .u8 kn) from rfl)
    have z1 := (blk_cell hbox 1).trans (show _ = some (Value.int .i64 x.f1) from rfl)
    have z2 := (blk_cell hbox 2).trans (show _ = some (Value.int .u64 x.f2) from rfl)
    have z3 := (blk_cell hbox 3).trans (show _ = some (Value.string x.f3) from rfl)
    have z4 := (blk_cell hbox 4).trans (show _ = some (Value.int .i64 x.f4) from rfl)
    have z5 := (blk_cell hbox 5).trans (show _ = some (Value.slice A5 x.f5.length c5) from rfl)
    have hglt := blk_lt hbox
    have HB3 := Aside0.mk hB3
    have HBX := Aside0.mk hbox
    have HGG := Aside0.mk hg
    have HS := Aside0.mk hs
    have HP := Aside0.mk hp
    have HQ := Aside0.mk hq
    have HKN := Aside0.mk hkn
    clear hb3 hbox hB3 hg hs hp hq hkn
    by_cases hp0 : 0 < p
    · have hd : decide (0 < p) = true := decide_eq_true hp0
      rw [hd]
      have HWD := Aside0.mk (show ((x.f5.length : Int) = p) → ∀ W : World, kT.K W x [.int .u8 kn, .int .i64 x.f1, .int .u64 x.f2, .string x.f3, .int .i64 x.f4, .slice A5 x.f5.length c5] → Calls Tryd.prog 76 #[.agg #[.int .u8 kn, .int .i64 x.f1, .int .u64 x.f2, .string x.f3, .int .i64 x.f4, .slice A5 x.f5.length c5], .int .i64 q] W fun e w' => e = .returned (.bool (widthsB x q)) ∧ Below W.heap.size W w' from fun hl W hKW => by
        have hk25 : kn < 25 := by
          rcases Nat.lt_or_ge kn 25 with h | h
          · exact h
          · have h2 : shP kn = 0 := by unfold shP; rw [shOut kn h]
            rw [HP.out, h2] at hp0
            omega
        rw [HP.out] at hp0 hl
        rw [HQ.out]
        exact widths_calls kn x _ W hKW hk25 hp0 hl hx0 hx1)
      have h := HH.out
      clear HH
      rw [HKN.out, Int.toNat_natCast, ← HP.out, ← HQ.out, if_pos hp0] at h
      have HH := Aside0.mk h
      clear h hp0 hd
      by_cases h1_ : x.f2 = 0
      · have h := HH.out
        clear HH
        rw [if_pos h1_] at h
        have HH := Aside0.mk h
        clear h
        have b_1 : (x.f2 == 0) = true := by simp [h1_]
        clear h1_
        by_cases h2_ : x.f3.size = 0
        · have h := HH.out
          clear HH
          rw [if_pos h2_] at h
          have HH := Aside0.mk h
          clear h
          have b_2 : x.f3.toList = [] := (str_nil x.f3).2 h2_
          clear h2_
          by_cases h3 : x.f4 = 0
          · have h := HH.out
            clear HH
            rw [if_pos (Or.inl h3)] at h
            have HH := Aside0.mk h
            clear h
            have b_h3 : (x.f4 == 0) = true := by simp [h3]
            clear h3
            by_cases h4 : (x.f5.length : Int) = p
            · have h := HH.out
              rw [if_pos h4] at h
              obtain rfl := Option.some.inj h
              have HWE := Aside0.mk (HWD.out h4)
              have b_h4 : ((x.f5.length : Int) == p) = true := by simp [h4]
              clear h h4 HH HWD
              go_wp2_with (first | (go_at_call 76; refine (HWE.out _ ?hKW).mono ?_; (case hKW => (have hk := kT.K_below HB3.out HK.out; rw [HKN.out] at hk; exact kT.K_below (by repeat (first | exact Below.refl _ _ | apply below_alloc)) hk)); rintro e w' ⟨rfl, hb⟩; have HBE := Aside0.mk hb; clear hb))
              go_ret
              exact ⟨rfl, below_step (by repeat (first | exact HB3.out | apply below_alloc)) HBE.out⟩
            · have h := HH.out
              rw [if_neg h4] at h
              obtain rfl := Option.some.inj h
              have b_h4 : ((x.f5.length : Int) == p) = false := by simp [h4]
              clear h h4 HH HWD
              go_wp2
              go_ret
              exact ⟨rfl, by repeat (first | exact HB3.out | apply below_alloc)⟩
          · have b_h3 : (x.f4 == 0) = false := by simp [h3]
            by_cases h5 : q = 5
            · have h := HH.out
              clear HH
              rw [if_pos (Or.inr h5)] at h
              have HH := Aside0.mk h
              clear h
              have b_h5 : (q == 5) = true := by simp [h5]
              clear h3 h5
              by_cases h4 : (x.f5.length : Int) = p
              · have h := HH.out
                rw [if_pos h4] at h
                obtain rfl := Option.some.inj h
                have HWE := Aside0.mk (HWD.out h4)
                have b_h4 : ((x.f5.length : Int) == p) = true := by simp [h4]
                clear h h4 HH HWD
                go_wp2_with (first | (go_at_call 76; refine (HWE.out _ ?hKW).mono ?_; (case hKW => (have hk := kT.K_below HB3.out HK.out; rw [HKN.out] at hk; exact kT.K_below (by repeat (first | exact Below.refl _ _ | apply below_alloc)) hk)); rintro e w' ⟨rfl, hb⟩; have HBE := Aside0.mk hb; clear hb))
                go_ret
                exact ⟨rfl, below_step (by repeat (first | exact HB3.out | apply below_alloc)) HBE.out⟩
              · have h := HH.out
                rw [if_neg h4] at h
                obtain rfl := Option.some.inj h
                have b_h4 : ((x.f5.length : Int) == p) = false := by simp [h4]
                clear h h4 HH HWD
                go_wp2
                go_ret
                exact ⟨rfl, by repeat (first | exact HB3.out | apply below_alloc)⟩
            · have h := HH.out
              clear HH
              rw [if_neg (by rintro (h | h); exact h3 h; exact h5 h)] at h
              have HH := Aside0.mk h
              clear h
              have b_h5 : (q == 5) = false := by simp [h5]
              clear h3 h5
              obtain rfl := Option.some.inj HH.out
              clear HWD
              go_wp2
              go_ret
              exact ⟨rfl, by repeat (first | exact HB3.out | apply below_alloc)⟩
        · have h := HH.out
          clear HH
          rw [if_neg h2_] at h
          have HH := Aside0.mk h
          clear h
          have b_2 : ¬ x.f3.toList = [] := fun h => h2_ ((str_nil x.f3).1 h)
          clear h2_
          obtain rfl := Option.some.inj HH.out
          clear HWD
          go_wp2
          go_ret
          exact ⟨rfl, by repeat (first | exact HB3.out | apply below_alloc)⟩
      · have h := HH.out
        clear HH
        rw [if_neg h1_] at h
        have HH := Aside0.mk h
        clear h
        have b_1 : (x.f2 == 0) = false := by simp [h1_]
        clear h1_
        obtain rfl := Option.some.inj HH.out
        clear HWD
        go_wp2
        go_ret
        exact ⟨rfl, by repeat (first | exact HB3.out | apply below_alloc)⟩
    · have hd : decide (0 < p) = false := decide_eq_false hp0
      rw [hd]
      have h := HH.out
      clear HH
      rw [HKN.out, Int.toNat_natCast, ← HP.out, ← HQ.out, if_neg hp0] at h
      have HH := Aside0.mk h
      have HWD := HH
      clear h hp0 hd
      by_cases h4_ : x.f5.length = 0
      · have h := HH.out
        clear HH
        rw [if_pos h4_] at h
        have HH := Aside0.mk h
        clear h
        have b_4 : ((x.f5.length : Int) == 0) = true := by simp [h4_]
        clear h4_
        by_cases h3_ : x.f4 = 0
        · have h := HH.out
          clear HH
          rw [if_pos h3_] at h
          have HH := Aside0.mk h
          clear h
          have b_3 : (x.f4 == 0) = true := by simp [h3_]
          clear h3_
          by_cases hk1 : (kn : Int) = 1
          · have h := HH.out
            clear HH
            rw [if_pos hk1] at h
            have HH := Aside0.mk h
            clear h
            have b_k1 : ((kn : Int) == 1) = true := by simp [hk1]
            have b_k2 : ((kn : Int) == 2) = false := beq_eq_false_iff_ne.2 q29_
            clear hk1
            by_cases h2_ : x.f3.size = 0
            · have h := HH.out
              clear HH
              rw [if_pos h2_] at h
              have HH := Aside0.mk h
              clear h
              have b_2 : x.f3.toList = [] := (str_nil x.f3).2 h2_
              clear h2_
              have hok : bits_Ok.f x.f1 x.f2 = some r := HH.out
              have HOK := Aside0.mk hok
              clear hok HH HWD
              cases r
              · go_wp2_with (first | (go_at_call 62; (with_reducible refine (bits_Ok.calls x.f1 x.f2 false _ HOK.out).mono ?_); rintro e w' ⟨rfl, ⟨nd, rfl⟩⟩))
                go_ret
                exact ⟨rfl, by repeat (first | exact HB3.out | apply below_alloc | apply pw_below_drewN)⟩
              · go_wp2_with (first | (go_at_call 62; (with_reducible refine (bits_Ok.calls x.f1 x.f2 true _ HOK.out).mono ?_); rintro e w' ⟨rfl, ⟨nd, rfl⟩⟩))
                go_ret
                exact ⟨rfl, by repeat (first | exact HB3.out | apply below_alloc | apply pw_below_drewN)⟩
            · have h := HH.out
              clear HH
              rw [if_neg h2_] at h
              have HH := Aside0.mk h
              clear h
              have b_2 : ¬ x.f3.toList = [] := fun h => h2_ ((str_nil x.f3).1 h)
              clear h2_
              obtain rfl := Option.some.inj HH.out
              clear HWD
              go_wp2
              go_ret
              exact ⟨rfl, by repeat (first | exact HB3.out | apply below_alloc)⟩
          · have h := HH.out
            clear HH
            rw [if_neg hk1] at h
            have HH := Aside0.mk h
            clear h
            have b_k1 : ((kn : Int) == 1) = false := beq_eq_false_iff_ne.2 q29_
            clear hk1
            by_cases hk2 : (kn : Int) = 2
            · have h := HH.out
              clear HH
              rw [if_pos hk2] at h
              have HH := Aside0.mk h
              clear h
              have b_k2 : ((kn : Int) == 2) = true := by simp [hk2]
              clear hk2
              by_cases h1_ : x.f2 = 0
              · have h := HH.out
                clear HH
                rw [if_pos h1_] at h
                have HH := Aside0.mk h
                clear h
                have b_1 : (x.f2 == 0) = true := by simp [h1_]
                clear h1_
                have hok : term_variable.f k x.f3 = some r := HH.out
                have HOK := Aside0.mk hok
                clear hok HH HWD
                go_wp2_with (first | (go_at_call 61; (with_reducible refine (term_variable.calls k x.f3 r _ HOK.out).mono ?_); rintro e w' ⟨rfl, hb⟩; have HBE := Aside0.mk hb; clear hb))
                go_ret
                exact ⟨rfl, by first | exact below_step (by repeat (first | exact HB3.out | apply below_alloc)) HBE.out | (obtain ⟨nd, rfl⟩ := HBE.out; exact pw_below_drewN (by repeat (first | exact HB3.out | apply below_alloc)) nd)⟩
              · have h := HH.out
                clear HH
                rw [if_neg h1_] at h
                have HH := Aside0.mk h
                clear h
                have b_1 : (x.f2 == 0) = false := by simp [h1_]
                clear h1_
                obtain rfl := Option.some.inj HH.out
                clear HWD
                go_wp2
                go_ret
                exact ⟨rfl, by repeat (first | exact HB3.out | apply below_alloc)⟩
            · have h := HH.out
              clear HH
              rw [if_neg hk2] at h
              have HH := Aside0.mk h
              clear h
              have b_k2 : ((kn : Int) == 2) = false := beq_eq_false_iff_ne.2 q29_
              clear hk2
              obtain rfl := Option.some.inj HH.out
              clear HWD
              go_wp2
              go_ret
              exact ⟨rfl, by repeat (first | exact HB3.out | apply below_alloc)⟩
        · have h := HH.out
          clear HH
          rw [if_neg h3_] at h
          have HH := Aside0.mk h
          clear h
          have b_3 : (x.f4 == 0) = false := by simp [h3_]
          clear h3_
          obtain rfl := Option.some.inj HH.out
          clear HWD
          go_wp2
          go_ret
          exact ⟨rfl, by repeat (first | exact HB3.out | apply below_alloc)⟩
      · have h := HH.out
        clear HH
        rw [if_neg h4_] at h
        have HH := Aside0.mk h
        clear h
        have b_4 : ((x.f5.length : Int) == 0) = false := beq_eq_false_iff_ne.2 q29_
        clear h4_
        obtain rfl := Option.some.inj HH.out
        clear HWD
        go_wp2
        go_ret
        exact ⟨rfl, by repeat (first | exact HB3.out | apply below_alloc)⟩
end Go.Proofs.YtjopdafckhkmmaaDoor.MBS
