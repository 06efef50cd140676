/- The law InterpretStores: for every memory, address, width and number, Store returns what the reference returns and leaves its argument alone; for every two outcomes Same answers as the reference does. No condition. -/
import Derived.Test.YtpogkinegkfokaaRows
import Derived.Test.YtpogkinegkfokaaCISMInterpretStoresx
import Derived.Test.YtpogkinegkfokaaCISPureInterpretStores
import Derived.Test.YtpogkinegkfokaaCISOpens
import Derived.WalkKit
import Derived.ProofKit
import Derived.OpenShut
import Derived.ShutString
import Derived.ChangeOld
import Derived.Below
import Derived.SizedLaws
import Derived.Lib.SmallJoins
namespace Go.Proofs.Ytpogkinegkfokaa.interpretStores
open Go.ChangeShapes Go.WideShapes Go.ChangeAt Go.RowKit Go.Proofs.Ytpogkinegkfokaa.Opn Go.Proofs.YtpogkinegkfokaaW.PrintWords
set_option linter.unusedVariables false
theorem own : ownKnob Try.prog.godebug = none := by kernel_rfl
theorem laidOut : laidOutB Try.prog = true := by kernel_rfl
abbrev k36 := MInterpretStores.k36
abbrev S36 := MInterpretStores.S36

theorem opens36 (N : Nat) : Opens Try.prog N 36 k36 (fun x => (Lit.int .u64 x.f0).wf = true ∧ (Lit.int .u8 x.f1).wf = true) :=
  (opens_iso (fun x : S36 => (x.f0, x.f1)) (fun p => ⟨p.1, p.2⟩) (fun _ => rfl)
    (opens_struct Try.underlying36 (by kernel_rfl) (opensF_cons rfl (opens_int N Try.underlying23 (by kernel_rfl)) (opensF_one rfl (opens_int N Try.underlying5 (by kernel_rfl)))))).mono (Nat.le_succ N)
theorem opens22 (N : Nat) : Opens Try.prog N 22 (Kd.slice 36 k36) (fun l => l.length * 16 ≤ 140737488351232 ∧ ∀ a ∈ l, (Lit.int .u64 a.f0).wf = true ∧ (Lit.int .u8 a.f1).wf = true) :=
  opens_slice Try.underlying22 (by kernel_rfl) (by kernel_rfl) (opens36 N)
theorem opens24 (N : Nat) : Opens Try.prog N 24 (Kd.slice 23 (Kd.int .u64)) (fun l => l.length * 8 ≤ 140737488351232 ∧ ∀ a ∈ l, (Lit.int .u64 a).wf = true) :=
  opens_slice Try.underlying24 (by kernel_rfl) (by kernel_rfl) (opens_int N Try.underlying23 (by kernel_rfl))
theorem opens26 (N : Nat) : Opens Try.prog N 26 (Kd.pair (Kd.slice 23 (Kd.int .u64)) (Kd.pair (Kd.int .u8) (Kd.pair (Kd.int .u64) (Kd.slice 36 k36)))) (fun _ => True) :=
  ((opens_struct Try.underlying26 (by kernel_rfl) (opensF_cons rfl (opens24 N) (opensF_cons rfl (opens_int N Try.underlying5 (by kernel_rfl)) (opensF_cons rfl (opens_int N Try.underlying23 (by kernel_rfl)) (opensF_one rfl (opens22 N)))))).mono (Nat.le_succ N)).imp (fun _ _ => trivial)

set_option maxRecDepth 100000 in
theorem lifted (os : Os) (started : os.Started) (H : Type) (enc : TypeId × Value → H) :
    ReturnsInHanded {} Try.checked os 3 .any (Rows.interpretStoresSpec.pre6 enc Try.prog Try.f3 Rows.interpretStoresRow.domain false) (Rows.interpretStoresSpec.post enc Try.prog Try.f3 false true false false) := by
  refine returnsInHanded_of_change_sized (C := Try.checked) own started (by kernel_rfl) Try.func3
    (ChangeSpec.witness6 (enc := enc) (C := Try.checked) false ⟨#[], #[.slice none 0 0, .int .u64 0, .int .i64 0, .int .u64 0, .agg #[.slice none 0 0, .int .u8 0, .int .u64 0, .slice none 0 0], .agg #[.slice none 0 0, .int .u8 0, .int .u64 0, .slice none 0 0]], []⟩ 8 (by kernel_rfl) (by kernel_rfl) (by kernel_rfl) (by kernel_rfl)) ?_
  intro W base args ds gs before hval0 hW hcnd hsz0 _
  have hsz : (DataW.weightsEach Try.prog (Try.f3.params.toList ++ Rows.interpretStoresSpec.plain.varTypes Try.prog) (ds ++ gs)).all (· ≤ reachBytes) = true := hsz0
  have hval : ∀ (j : Nat) t v, Try.f3.params[j]? = some t → args[j]? = some v → Value.okWide Try.prog W .any base t v := hval0
  have hW' := hW
  obtain ⟨p, q, hA0, hV, rfl, hfz, hnd⟩ := hW
  have hA : DataW.TrodAll enc Try.prog W 0 (fun _ => true) true Try.f3.params.toList args.toList ds p := hA0
  rw [Try.params3] at hA hval hsz
  obtain ⟨v0, vs0, d0, ds0, p0, q0, hargs, rfl, rfl, h0, r0⟩ := trodAll_cons hA
  obtain ⟨v1, vs1, d1, ds1, p1, q1, rfl, rfl, rfl, h1, r1⟩ := trodAll_cons r0
  obtain ⟨v2, vs2, d2, ds2, p2, q2, rfl, rfl, rfl, h2, r2⟩ := trodAll_cons r1
  obtain ⟨v3, vs3, d3, ds3, p3, q3, rfl, rfl, rfl, h3, r3⟩ := trodAll_cons r2
  obtain ⟨v4, vs4, d4, ds4, p4, q4, rfl, rfl, rfl, h4, r4⟩ := trodAll_cons r3
  obtain ⟨v5, vs5, d5, ds5, p5, q5, rfl, rfl, rfl, h5, r5⟩ := trodAll_cons r4
  obtain ⟨rfl, rfl, rfl⟩ := trodAll_nil r5
  obtain rfl : args = #[v0, v1, v2, v3, v4, v5] := by cases args; simp_all
  obtain ⟨rfl, rfl⟩ := trodVars_none hV
  have k0 := h0
  have lt0 : ∀ x ∈ p0, x.block < W.heap.size := by obtain ⟨m, hm⟩ := k0; exact DataW.trod_lt m _ _ _ hm
  have k4 := h4
  have lt4 : ∀ x ∈ p4, x.block < W.heap.size := by obtain ⟨m, hm⟩ := k4; exact DataW.trod_lt m _ _ _ hm
  have k5 := h5
  have lt5 : ∀ x ∈ p5, x.block < W.heap.size := by obtain ⟨m, hm⟩ := k5; exact DataW.trod_lt m _ _ _ hm
  obtain ⟨b0, n0_, m0_, rfl⟩ := WideShapes.okWide_slice Try.underlying22 (hval 0 22 v0 rfl rfl)
  obtain ⟨l0, ⟨A0, n0, e0, y0, z0⟩, w0⟩ := Opens.arg opens22 hsz (j := 0) rfl rfl h0
  obtain ⟨rfl, rfl, rfl⟩ : b0 = A0 ∧ n0_ = l0.length ∧ m0_ = n0 := by simpa [Value.cells] using e0
  obtain ⟨a1, rfl, rfl, rfl, w1⟩ := open_int Try.underlying23 (hval 1 23 v1 rfl rfl) h1
  obtain ⟨a2, rfl, rfl, rfl, w2⟩ := open_int Try.underlying3 (hval 2 3 v2 rfl rfl) h2
  obtain ⟨a3, rfl, rfl, rfl, w3⟩ := open_int Try.underlying23 (hval 3 23 v3 rfl rfl) h3
  obtain ⟨cs4, rfl, hcs4⟩ := WideShapes.okWide_struct Try.underlying26 (hval 4 26 v4 rfl rfl)
  obtain ⟨⟨l4, a4, b4, m4⟩, hK4, _⟩ := Opens.arg opens26 hsz (j := 4) rfl rfl h4
  obtain ⟨c0, c1, hc4, ⟨A4, n4, rfl, y4, z4⟩, c2, c3, rfl, rfl, c4, c5, rfl, rfl, ⟨B4, o4, rfl, y4', z4'⟩⟩ := hK4
  obtain rfl : cs4 = #[.slice A4 l4.length n4, .int .u8 a4, .int .u64 b4, .slice B4 m4.length o4] := by
    apply Array.toList_inj.1
    simpa [Value.cells] using hc4
  obtain ⟨cs5, rfl, hcs5⟩ := WideShapes.okWide_struct Try.underlying26 (hval 5 26 v5 rfl rfl)
  obtain ⟨⟨l5, a5, b5, m5⟩, hK5, _⟩ := Opens.arg opens26 hsz (j := 5) rfl rfl h5
  obtain ⟨c0, c1, hc5, ⟨A5, n5, rfl, y5, z5⟩, c2, c3, rfl, rfl, c4, c5, rfl, rfl, ⟨B5, o5, rfl, y5', z5'⟩⟩ := hK5
  obtain rfl : cs5 = #[.slice A5 l5.length n5, .int .u8 a5, .int .u64 b5, .slice B5 m5.length o5] := by
    apply Array.toList_inj.1
    simpa [Value.cells] using hc5
  clear hA0 hval0 hsz0 hsz
  have u1 : 0 ≤ a1 ∧ a1 < 18446744073709551616 := by
    simp [Lit.wf, IntKind.min, IntKind.max, IntKind.bits, IntKind.signed] at w1
    omega
  have u3 : 0 ≤ a3 ∧ a3 < 18446744073709551616 := by
    simp [Lit.wf, IntKind.min, IntKind.max, IntKind.bits, IntKind.signed] at w3
    omega
  have u0 : ∀ y ∈ l0, 0 ≤ y.f0 := fun y hy => by
    have h := (w0.2 y hy).1
    simp [Lit.wf, IntKind.min, IntKind.max, IntKind.bits, IntKind.signed] at h
    omega
  obtain ⟨k, hk⟩ := Pure.InterpretStores l0 a1 a2 a3 l4 a4 b4 m4 l5 a5 b5 m5 u0 u1.1 u1.2 u3.1 u3.2
  refine (MInterpretStores.retargetlaw19_InterpretStores.calls k _ _ l0 a1 a2 a3 A4 n4 l4 a4 b4 B4 o4 m4 A5 n5 l5 a5 b5 B5 o5 m5 true W z0 y0 z4 y4 z4' y4' z5 y5 z5' y5' hk).mono fun e W' ⟨he, bel⟩ => ?_
  subst he
  exact ⟨_, rfl, _, _, _, [], _, [], hW', trodAll_mk1 (shut_bool Try.underlying4 _), (trodAll_cons_mk (Below.trod laidOut (by kernel_rfl) (of_decide_eq_true (by kernel_rfl)) k0 bel lt0) (trodAll_cons_mk (shut_int Try.underlying23 w1) (trodAll_cons_mk (shut_int Try.underlying3 w2) (trodAll_cons_mk (shut_int Try.underlying23 w3) (trodAll_cons_mk (Below.trod laidOut (by kernel_rfl) (of_decide_eq_true (by kernel_rfl)) k4 bel lt4) (trodAll_cons_mk (Below.trod laidOut (by kernel_rfl) (of_decide_eq_true (by kernel_rfl)) k5 bel lt5) trodAll_mk0)))))), rfl, bel.frame _, fun h => by cases h⟩
theorem over : Rows.interpretStoresRow.holds Try.pinned (OpenSpec.ofChange Rows.interpretStoresSpec) :=
  OpenClaim.holds_of_wide 3 Try.f3 rfl rfl rfl rfl rfl rfl rfl ⟨rfl, rfl, rfl, rfl, rfl⟩ rfl rfl rfl rfl rfl (by kernel_rfl) Try.func3 (by kernel_rfl)
    (of_decide_eq_true (by kernel_rfl)) (by unfold Func.isWrapper; first | (rw [if_pos (by decide +kernel)]; kernel_rfl) | (rw [if_neg (by decide +kernel)]; exact ⟨rfl, rfl⟩))
    (fun os started H enc _ => lifted os started H enc)
theorem proved : Rows.InterpretStoresSaid := over
#print axioms proved
end Go.Proofs.Ytpogkinegkfokaa.interpretStores
namespace Go.Proofs.Ytpogkinegkfokaa
/-- The row, under a short name, for the claim. -/
theorem interpretStores_holds : Rows.InterpretStoresSaid := interpretStores.proved
end Go.Proofs.Ytpogkinegkfokaa
