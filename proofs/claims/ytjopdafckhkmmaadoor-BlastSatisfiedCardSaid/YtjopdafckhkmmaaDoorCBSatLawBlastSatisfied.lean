/- The law BlastSatisfied, as its tied card: for every circuit, values of its inputs, output and node: the nodes' values satisfy the clauses if and only if the output is true, and no other value of a single gate does. Condition: the table term.shapes starts as the program's text lays it (the card ties it). -/
import Derived.Test.YtjopdafckhkmmaaDoorRows
import Derived.Test.YtjopdafckhkmmaaDoorTie
import Derived.Test.YtjopdafckhkmmaaDoorCards
import Derived.Test.YtjopdafckhkmmaaDoorCBSatMBSx
import Derived.Test.YtjopdafckhkmmaaDoorCBSatHBSLaid
import Derived.Test.YtjopdafckhkmmaaDoorCBSatPureSatB
import Derived.Test.YtjopdafckhkmmaaDoorCBSatOpens
import Derived.WalkKit
import Derived.ProofKit
import Derived.OpenShut
import Derived.ShutString
import Derived.ChangeOld
import Derived.Below
import Derived.SizedLaws
import Derived.LaidMore
import Derived.SevenTiedAt
import Derived.Lib.SmallJoins
namespace Go.Proofs.YtjopdafckhkmmaaDoor.blastSatisfied
open Go.ChangeShapes Go.WideShapes Go.ChangeAt Go.RowKit Go.Proofs.YtjopdafckhkmmaaDoor.Opn Go.Proofs.YtjopdafckhkmmaaDoorW.PrintWords
set_option linter.unusedVariables false
theorem own : ownKnob Tryd.prog.godebug = none := by kernel_rfl
theorem laidOut : laidOutB Tryd.prog = true := by kernel_rfl

theorem opensCI (N : Nat) : Opens Tryd.prog N 44 MBS.k44 (fun x => x.f0.size ≤ 140737488351232 ∧ (Lit.int .i64 x.f1).wf = true) :=
  (opens_iso (fun x : MBS.S44 => (x.f0, x.f1)) (fun p => ⟨p.1, p.2⟩) (fun _ => rfl)
    (opens_struct Tryd.underlying44 (by kernel_rfl) (opensF_cons rfl (opens_string N Tryd.underlying9 (by kernel_rfl)) (opensF_one rfl (opens_int N Tryd.underlying3 (by kernel_rfl)))))).mono (Nat.le_succ N)
theorem opensCG (N : Nat) : Opens Tryd.prog N 49 MBS.k49 (fun x => (Lit.int .i64 x.f0).wf = true ∧ (Lit.int .i64 x.f1).wf = true) :=
  (opens_iso (fun x : MBS.S49 => (x.f0, x.f1)) (fun p => ⟨p.1, p.2⟩) (fun _ => rfl)
    (opens_struct Tryd.underlying49 (by kernel_rfl) (opensF_cons rfl (opens_int N Tryd.underlying3 (by kernel_rfl)) (opensF_one rfl (opens_int N Tryd.underlying3 (by kernel_rfl)))))).mono (Nat.le_succ N)
theorem opensC (N : Nat) : Opens Tryd.prog N 32 (Kd.pair (Kd.slice 44 MBS.k44) (Kd.pair (Kd.slice 49 MBS.k49) (Kd.slice 3 (Kd.int .i64))))
    (fun x => (x.1.length * 24 ≤ 140737488351232 ∧ ∀ a ∈ x.1, a.f0.size ≤ 140737488351232 ∧ (Lit.int .i64 a.f1).wf = true) ∧ (x.2.1.length * 16 ≤ 140737488351232 ∧ ∀ a ∈ x.2.1, (Lit.int .i64 a.f0).wf = true ∧ (Lit.int .i64 a.f1).wf = true) ∧ (x.2.2.length * 8 ≤ 140737488351232 ∧ ∀ a ∈ x.2.2, (Lit.int .i64 a).wf = true)) :=
  (opens_struct Tryd.underlying32 (by kernel_rfl) (opensF_cons rfl (opens_slice Tryd.underlying28 (by kernel_rfl) (by kernel_rfl) (opensCI N)) (opensF_cons rfl (opens_slice Tryd.underlying29 (by kernel_rfl) (by kernel_rfl) (opensCG N)) (opensF_one rfl (opens_slice Tryd.underlying30 (by kernel_rfl) (by kernel_rfl) (opens_int N Tryd.underlying3 (by kernel_rfl))))))).mono (Nat.le_succ N)
theorem opensB (N : Nat) : Opens Tryd.prog N 50 (Kd.slice 4 Kd.bool) (fun l => l.length * 1 ≤ 140737488351232 ∧ ∀ a ∈ l, True) :=
  opens_slice Tryd.underlying50 (by kernel_rfl) (by kernel_rfl) (opens_bool N Tryd.underlying4 (by kernel_rfl))
abbrev laidL : List (String × DataW Unit) := [("retarget/term.shapes", Rows.laid_retarget_term_shapes)]
theorem door_met (os : Os) (args : Array Value) : laidMetH Tryd.prog laidL ((World.doorLaid Tryd.prog 400 os).forCall (fun _ _ => 0) ⟨#[], args, []⟩).memory :=
  laidMetH_of_parts3 (fuel := 8) (laidMet_of_run' 8 (by kernel_rfl) (by kernel_rfl)) (by kernel_rfl) (by kernel_rfl)

set_option maxRecDepth 100000 in
theorem lifted (os : Os) (started : os.Started) (H : Type) (enc : TypeId × Value → H) :
    ReturnsInHanded {} Tryd.checked os 5 .any (fun w args => (Rows.blastSatisfiedSpec.pre enc Tryd.prog Tryd.f5 [] false w args ∧ laidMetH Tryd.prog laidL w) ∧ sizedMet enc Tryd.prog Tryd.f5 (OpenSpec.ofChange Rows.blastSatisfiedSpec) false w args)
      (Rows.blastSatisfiedSpec.post enc Tryd.prog Tryd.f5 false true false false) := by
  refine returnsInHanded_of_change_and (C := Tryd.checked) (X := fun w _ => laidMetH Tryd.prog laidL w) (fun _ _ _ hh h => h.of_heap hh) own started (by kernel_rfl) Tryd.func5
    (ChangeSpec.witness_shaped (enc := enc) (C := Tryd.checked) (os := os) (X := fun w _ => laidMetH Tryd.prog laidL w) false (World.doorLaid Tryd.prog 400 os) #[.agg #[.slice none 0 0, .slice none 0 0, .slice none 0 0], .slice none 0 0, .int .i64 0, .int .i64 0] 8 rfl (World.shaped_of_RefB (by kernel_rfl) (by kernel_rfl)) (by kernel_rfl) (by kernel_rfl) (by kernel_rfl) (door_met os _)) ?_
  intro W base args ds gs before hval0 hW _ hsz0 hL _
  have hsz : (DataW.weightsEach Tryd.prog (Tryd.f5.params.toList ++ Rows.blastSatisfiedSpec.plain.varTypes Tryd.prog) (ds ++ gs)).all (· ≤ reachBytes) = true := hsz0
  have hval : ∀ (j : Nat) t v, Tryd.f5.params[j]? = some t → args[j]? = some v → Value.okWide Tryd.prog W .any base t v := hval0
  have hW' := hW
  obtain ⟨p, q, hA0, hV, rfl, hfz, hnd⟩ := hW
  have hA : DataW.TrodAll enc Tryd.prog W 0 (fun _ => true) true Tryd.f5.params.toList args.toList ds p := hA0
  rw [Tryd.params5] at hA hval hsz
  obtain ⟨v0, vs0, d0, ds0, p0, q0, hargs, rfl, rfl, h0, r0⟩ := trodAll_cons hA
  obtain ⟨v1, vs1, d1, ds1, p1, q1, rfl, rfl, rfl, h1, r1⟩ := trodAll_cons r0
  obtain ⟨v2, vs2, d2, ds2, p2, q2, rfl, rfl, rfl, h2, r2⟩ := trodAll_cons r1
  obtain ⟨v3, vs3, d3, ds3, p3, q3, rfl, rfl, rfl, h3, r3⟩ := trodAll_cons r2
  obtain ⟨rfl, rfl, rfl⟩ := trodAll_nil r3
  obtain rfl : args = #[v0, v1, v2, v3] := by cases args; simp_all
  obtain ⟨rfl, rfl⟩ := trodVars_none hV
  have k0 := h0
  have lt0 : ∀ x ∈ p0, x.block < W.heap.size := by obtain ⟨m, hm⟩ := k0; exact DataW.trod_lt m _ _ _ hm
  have k1 := h1
  have lt1 : ∀ x ∈ p1, x.block < W.heap.size := by obtain ⟨m, hm⟩ := k1; exact DataW.trod_lt m _ _ _ hm
  obtain ⟨cs0, rfl, hcs0⟩ := WideShapes.okWide_struct Tryd.underlying32 (hval 0 32 v0 rfl rfl)
  obtain ⟨⟨l0, l1, l2⟩, hK, w0⟩ := Opens.arg opensC hsz (j := 0) rfl rfl h0
  obtain ⟨c0, c1, hc, ⟨A0, n0, rfl, y0, z0⟩, c2, c3, rfl, ⟨A1, n1, rfl, y1, z1⟩, ⟨A2, n2, rfl, y2, z2⟩⟩ := hK
  obtain rfl : cs0 = #[.slice A0 l0.length n0, .slice A1 l1.length n1, .slice A2 l2.length n2] := by
    apply Array.toList_inj.1
    simpa [Value.cells] using hc
  obtain ⟨b1, n3_, m3_, rfl⟩ := WideShapes.okWide_slice Tryd.underlying50 (hval 1 50 v1 rfl rfl)
  obtain ⟨l3, ⟨A3, n3, e3, y3, z3⟩, w1⟩ := Opens.arg opensB hsz (j := 1) rfl rfl h1
  obtain ⟨rfl, rfl, rfl⟩ : b1 = A3 ∧ n3_ = l3.length ∧ m3_ = n3 := by simpa [Value.cells] using e3
  obtain ⟨a2, rfl, rfl, rfl, w2⟩ := open_int Tryd.underlying3 (hval 2 3 v2 rfl rfl) h2
  obtain ⟨a3, rfl, rfl, rfl, w3⟩ := open_int Tryd.underlying3 (hval 3 3 v3 rfl rfl) h3
  have HTAB := Aside0.mk (MBS.tab_of_laid hL)
  clear hA0 hval0 hsz0 hsz
  obtain ⟨k, hk⟩ := PureS.BlastSatisfied l0 l1 l2 l3 a2 a3 w0
  refine (MBS.retargetlaw04_BlastSatisfied.calls k A0 n0 l0 A1 n1 l1 A2 n2 l2 _ _ l3 a2 a3 true W HTAB z0 y0 z1 y1 z2 y2 z3 y3 hk).mono fun e W' ⟨he, bel⟩ => ?_
  subst he
  exact ⟨_, rfl, _, _, _, [], _, [], hW', trodAll_mk1 (shut_bool Tryd.underlying4 _), (trodAll_cons_mk (Below.trod laidOut (by kernel_rfl) (of_decide_eq_true (by kernel_rfl)) k0 bel lt0) (trodAll_cons_mk (Below.trod laidOut (by kernel_rfl) (of_decide_eq_true (by kernel_rfl)) k1 bel lt1) (trodAll_cons_mk (shut_int Tryd.underlying3 w2) (trodAll_cons_mk (shut_int Tryd.underlying3 w3) trodAll_mk0)))), rfl, bel.frame _, fun h => by cases h⟩
theorem over : Rows.BlastSatisfiedSaid :=
  OpenClaim.holds_of_wide 5 Tryd.f5 rfl rfl rfl rfl rfl rfl rfl ⟨rfl, rfl, rfl, rfl, rfl⟩ rfl rfl rfl rfl rfl (by kernel_rfl) Tryd.func5 (by kernel_rfl)
    (of_decide_eq_true (by kernel_rfl)) (by unfold Func.isWrapper; first | (rw [if_pos (by decide +kernel)]; kernel_rfl) | (rw [if_neg (by decide +kernel)]; exact ⟨rfl, rfl⟩))
    (fun os started H enc _ => lifted os started H enc)
theorem card : Rows.BlastSatisfiedCardSaid :=
  Claim7.holds_tied_plain_at .later [] [.data] true Rows.blastSatisfiedCard.stood.harness false
    over (fun _ h => by cases h) (by kernel_rfl) (fun _ h => by cases h) blastSatisfied_row_tie rfl ⟨rfl, rfl⟩ (by kernel_rfl) rfl
    (fun f fn hf hfn => by
      obtain rfl : f = 5 := Option.some.inj ((show Tryd.prog.funcNamed "retarget/retargetlaw04.BlastSatisfied" = some 5 by kernel_rfl).symm.trans hf) |>.symm
      obtain rfl : fn = Tryd.f5 := (Option.some.inj (Tryd.func5.symm.trans hfn)).symm
      exact ⟨by kernel_rfl, fun j t ht => by
        rw [Tryd.params5] at ht
        have hm : t ∈ [32, 50, 3, 3] := by simpa using Array.mem_of_getElem? ht
        have hall : ([32, 50, 3, 3].all fun u => !Tryd.prog.wantsStandIn u) = true := by kernel_rfl
        exact (show Tryd.prog.wantsStandIn t = false by simpa using List.all_eq_true.1 hall t hm)⟩)
    (by kernel_rfl)
#print axioms card
end Go.Proofs.YtjopdafckhkmmaaDoor.blastSatisfied
namespace Go.Proofs.YtjopdafckhkmmaaDoor
/-- The card, under a short name, for the claim. -/
theorem blastSatisfied_holds : Rows.BlastSatisfiedCardSaid := blastSatisfied.card
end Go.Proofs.YtjopdafckhkmmaaDoor
