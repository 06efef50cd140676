/- The law BlastRuns: for every circuit, every list of Bools and every binding, Run and Inputs return what the reference returns. No condition. -/
import Derived.Test.YtjapfakpfoeaiaaRows
import Derived.Test.YtjapfakpfoeaiaaCBlastRunsMBlastRunsx
import Derived.Test.YtjapfakpfoeaiaaCBlastRunsPureBlastRuns
import Derived.Test.YtjapfakpfoeaiaaCBlastRunsOpens
import Derived.WalkKit
import Derived.ProofKit
import Derived.OpenShut
import Derived.ShutString
import Derived.ChangeOld
import Derived.Below
import Derived.SizedLaws
import Derived.Lib.SmallJoins
namespace Go.Proofs.Ytjapfakpfoeaiaa.blastRuns
open Go.ChangeShapes Go.WideShapes Go.ChangeAt Go.RowKit Go.Proofs.Ytjapfakpfoeaiaa.Opn Go.Proofs.YtjapfakpfoeaiaaW.PrintWords
set_option linter.unusedVariables false
theorem own : ownKnob Try.prog.godebug = none := by kernel_rfl
theorem laidOut : laidOutB Try.prog = true := by kernel_rfl

theorem opens52 (N : Nat) : Opens Try.prog N 52 MBlastRuns.k52 (fun x => x.f0.size ≤ 140737488351232 ∧ (Lit.int .i64 x.f1).wf = true) :=
  (opens_iso (fun x : MBlastRuns.S52 => (x.f0, x.f1)) (fun p => ⟨p.1, p.2⟩) (fun _ => rfl)
    (opens_struct Try.underlying52 (by kernel_rfl) (opensF_cons rfl (opens_string N Try.underlying9 (by kernel_rfl)) (opensF_one rfl (opens_int N Try.underlying3 (by kernel_rfl)))))).mono (Nat.le_succ N)
theorem opens54 (N : Nat) : Opens Try.prog N 54 MBlastRuns.k54 (fun x => (Lit.int .i64 x.f0).wf = true ∧ (Lit.int .i64 x.f1).wf = true) :=
  (opens_iso (fun x : MBlastRuns.S54 => (x.f0, x.f1)) (fun p => ⟨p.1, p.2⟩) (fun _ => rfl)
    (opens_struct Try.underlying54 (by kernel_rfl) (opensF_cons rfl (opens_int N Try.underlying3 (by kernel_rfl)) (opensF_one rfl (opens_int N Try.underlying3 (by kernel_rfl)))))).mono (Nat.le_succ N)
theorem opens26 (N : Nat) : Opens Try.prog N 26 (Kd.pair (Kd.slice 52 MBlastRuns.k52) (Kd.pair (Kd.slice 54 MBlastRuns.k54) (Kd.slice 3 (Kd.int .i64))))
    (fun x => (x.1.length * 24 ≤ 140737488351232 ∧ ∀ a ∈ x.1, a.f0.size ≤ 140737488351232 ∧ (Lit.int .i64 a.f1).wf = true) ∧ (x.2.1.length * 16 ≤ 140737488351232 ∧ ∀ a ∈ x.2.1, (Lit.int .i64 a.f0).wf = true ∧ (Lit.int .i64 a.f1).wf = true) ∧ (x.2.2.length * 8 ≤ 140737488351232 ∧ ∀ a ∈ x.2.2, (Lit.int .i64 a).wf = true)) :=
  (opens_struct Try.underlying26 (by kernel_rfl) (opensF_cons rfl (opens_slice Try.underlying22 (by kernel_rfl) (by kernel_rfl) (opens52 N)) (opensF_cons rfl (opens_slice Try.underlying23 (by kernel_rfl) (by kernel_rfl) (opens54 N)) (opensF_one rfl (opens_slice Try.underlying24 (by kernel_rfl) (by kernel_rfl) (opens_int N Try.underlying3 (by kernel_rfl))))))).mono (Nat.le_succ N)
theorem opens59 (N : Nat) : Opens Try.prog N 59 MBlastRuns.k59 (fun x => x.f0.size ≤ 140737488351232 ∧ (Lit.int .i64 x.f1).wf = true ∧ (Lit.int .u64 x.f2).wf = true) :=
  (opens_iso (fun x : MBlastRuns.S59 => (x.f0, x.f1, x.f2)) (fun p => ⟨p.1, p.2.1, p.2.2⟩) (fun _ => rfl)
    (opens_struct Try.underlying59 (by kernel_rfl) (opensF_cons rfl (opens_string N Try.underlying9 (by kernel_rfl)) (opensF_cons rfl (opens_int N Try.underlying3 (by kernel_rfl)) (opensF_one rfl (opens_int N Try.underlying57 (by kernel_rfl))))))).mono (Nat.le_succ N)
theorem opens38 (N : Nat) : Opens Try.prog N 38 (Kd.slice 4 Kd.bool) (fun l => l.length * 1 ≤ 140737488351232 ∧ ∀ a ∈ l, True) :=
  opens_slice Try.underlying38 (by kernel_rfl) (by kernel_rfl) (opens_bool N Try.underlying4 (by kernel_rfl))
theorem opens39 (N : Nat) : Opens Try.prog N 39 (Kd.slice 59 MBlastRuns.k59) (fun l => l.length * 32 ≤ 140737488351232 ∧ ∀ a ∈ l, a.f0.size ≤ 140737488351232 ∧ (Lit.int .i64 a.f1).wf = true ∧ (Lit.int .u64 a.f2).wf = true) :=
  opens_slice Try.underlying39 (by kernel_rfl) (by kernel_rfl) (opens59 N)

set_option maxRecDepth 100000 in
theorem lifted (os : Os) (started : os.Started) (H : Type) (enc : TypeId × Value → H) :
    ReturnsInHanded {} Try.checked os 4 .any (Rows.blastRunsSpec.pre6 enc Try.prog Try.f4 Rows.blastRunsRow.domain false) (Rows.blastRunsSpec.post enc Try.prog Try.f4 false true false false) := by
  refine returnsInHanded_of_change_sized (C := Try.checked) own started (by kernel_rfl) Try.func4
    (ChangeSpec.witness6 (enc := enc) (C := Try.checked) false ⟨#[], #[.agg #[.slice none 0 0, .slice none 0 0, .slice none 0 0], .slice none 0 0, .slice none 0 0], []⟩ 8 (by kernel_rfl) (by kernel_rfl) (by kernel_rfl) (by kernel_rfl)) ?_
  intro W base args ds gs before hval0 hW hcnd hsz0 _
  have hsz : (DataW.weightsEach Try.prog (Try.f4.params.toList ++ Rows.blastRunsSpec.plain.varTypes Try.prog) (ds ++ gs)).all (· ≤ reachBytes) = true := hsz0
  have hval : ∀ (j : Nat) t v, Try.f4.params[j]? = some t → args[j]? = some v → Value.okWide Try.prog W .any base t v := hval0
  have hW' := hW
  obtain ⟨p, q, hA0, hV, rfl, hfz, hnd⟩ := hW
  have hA : DataW.TrodAll enc Try.prog W 0 (fun _ => true) true Try.f4.params.toList args.toList ds p := hA0
  rw [Try.params4] at hA hval hsz
  obtain ⟨v0, vs0, d0, ds0, p0, q0, hargs, rfl, rfl, h0, r0⟩ := trodAll_cons hA
  obtain ⟨v1, vs1, d1, ds1, p1, q1, rfl, rfl, rfl, h1, r1⟩ := trodAll_cons r0
  obtain ⟨v2, vs2, d2, ds2, p2, q2, rfl, rfl, rfl, h2, r2⟩ := trodAll_cons r1
  obtain ⟨rfl, rfl, rfl⟩ := trodAll_nil r2
  obtain rfl : args = #[v0, v1, v2] := by cases args; simp_all
  obtain ⟨rfl, rfl⟩ := trodVars_none hV
  have k0 := h0
  have lt0 : ∀ x ∈ p0, x.block < W.heap.size := by obtain ⟨m, hm⟩ := k0; exact DataW.trod_lt m _ _ _ hm
  have k1 := h1
  have lt1 : ∀ x ∈ p1, x.block < W.heap.size := by obtain ⟨m, hm⟩ := k1; exact DataW.trod_lt m _ _ _ hm
  have k2 := h2
  have lt2 : ∀ x ∈ p2, x.block < W.heap.size := by obtain ⟨m, hm⟩ := k2; exact DataW.trod_lt m _ _ _ hm
  obtain ⟨cs0, rfl, hcs0⟩ := WideShapes.okWide_struct Try.underlying26 (hval 0 26 v0 rfl rfl)
  obtain ⟨⟨l0, l1, l2⟩, hK, w0⟩ := Opens.arg opens26 hsz (j := 0) rfl rfl h0
  obtain ⟨c0, c1, hc, ⟨A0, n0, rfl, y0, z0⟩, c2, c3, rfl, ⟨A1, n1, rfl, y1, z1⟩, ⟨A2, n2, rfl, y2, z2⟩⟩ := hK
  obtain rfl : cs0 = #[.slice A0 l0.length n0, .slice A1 l1.length n1, .slice A2 l2.length n2] := by
    apply Array.toList_inj.1
    simpa [Value.cells] using hc
  obtain ⟨b1, n3_, m3_, rfl⟩ := WideShapes.okWide_slice Try.underlying38 (hval 1 38 v1 rfl rfl)
  obtain ⟨l3, ⟨A3, n3, e3, y3, z3⟩, w1⟩ := Opens.arg opens38 hsz (j := 1) rfl rfl h1
  obtain ⟨rfl, rfl, rfl⟩ : b1 = A3 ∧ n3_ = l3.length ∧ m3_ = n3 := by simpa [Value.cells] using e3
  obtain ⟨b2, n4_, m4_, rfl⟩ := WideShapes.okWide_slice Try.underlying39 (hval 2 39 v2 rfl rfl)
  obtain ⟨l4, ⟨A4, n4, e4, y4, z4⟩, w2⟩ := Opens.arg opens39 hsz (j := 2) rfl rfl h2
  obtain ⟨rfl, rfl, rfl⟩ : b2 = A4 ∧ n4_ = l4.length ∧ m4_ = n4 := by simpa [Value.cells] using e4
  clear hA0 hval0 hsz0 hsz
  obtain ⟨k, hk⟩ := Pure.BlastRuns l0 l1 l2 l3 l4 w0 w2
  refine (MBlastRuns.retargetlaw04_BlastRuns.calls k A0 n0 l0 A1 n1 l1 A2 n2 l2 _ _ l3 _ _ l4 true W z0 y0 z1 y1 z2 y2 z3 y3 z4 y4 hk).mono fun e W' ⟨he, bel⟩ => ?_
  subst he
  exact ⟨_, rfl, _, _, _, [], _, [], hW', trodAll_mk1 (shut_bool Try.underlying4 _), (trodAll_cons_mk (Below.trod laidOut (by kernel_rfl) (of_decide_eq_true (by kernel_rfl)) k0 bel lt0) (trodAll_cons_mk (Below.trod laidOut (by kernel_rfl) (of_decide_eq_true (by kernel_rfl)) k1 bel lt1) (trodAll_cons_mk (Below.trod laidOut (by kernel_rfl) (of_decide_eq_true (by kernel_rfl)) k2 bel lt2) trodAll_mk0))), rfl, bel.frame _, fun h => by cases h⟩
theorem over : Rows.blastRunsRow.holds Try.pinned (OpenSpec.ofChange Rows.blastRunsSpec) :=
  OpenClaim.holds_of_wide 4 Try.f4 rfl rfl rfl rfl rfl rfl rfl ⟨rfl, rfl, rfl, rfl, rfl⟩ rfl rfl rfl rfl rfl (by kernel_rfl) Try.func4 (by kernel_rfl)
    (of_decide_eq_true (by kernel_rfl)) (by unfold Func.isWrapper; first | (rw [if_pos (by decide +kernel)]; kernel_rfl) | (rw [if_neg (by decide +kernel)]; exact ⟨rfl, rfl⟩))
    (fun os started H enc _ => lifted os started H enc)
theorem proved : Rows.BlastRunsSaid := over
#print axioms proved
end Go.Proofs.Ytjapfakpfoeaiaa.blastRuns
namespace Go.Proofs.Ytjapfakpfoeaiaa
/-- The row, under a short name, for the claim. -/
theorem blastRuns_holds : Rows.BlastRunsSaid := blastRuns.proved
end Go.Proofs.Ytjapfakpfoeaiaa
