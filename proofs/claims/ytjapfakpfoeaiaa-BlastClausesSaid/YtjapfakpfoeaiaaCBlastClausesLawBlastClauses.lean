/- The law BlastClauses: for every circuit and every index of an output, Clauses returns what the reference returns. No condition. -/
import Derived.Test.YtjapfakpfoeaiaaRows
import Derived.Test.YtjapfakpfoeaiaaCBlastClausesMBlastClausesx
import Derived.Test.YtjapfakpfoeaiaaCBlastClausesPureBlastClauses
import Derived.Test.YtjapfakpfoeaiaaCBlastClausesOpens
import Derived.WalkKit
import Derived.ProofKit
import Derived.OpenShut
import Derived.ShutString
import Derived.ChangeOld
import Derived.Below
import Derived.SizedLaws
import Derived.Lib.SmallJoins
namespace Go.Proofs.Ytjapfakpfoeaiaa.blastClauses
open Go.ChangeShapes Go.WideShapes Go.ChangeAt Go.RowKit Go.Proofs.Ytjapfakpfoeaiaa.Opn Go.Proofs.YtjapfakpfoeaiaaW.PrintWords
set_option linter.unusedVariables false
theorem own : ownKnob Try.prog.godebug = none := by kernel_rfl
theorem laidOut : laidOutB Try.prog = true := by kernel_rfl

theorem opens52 (N : Nat) : Opens Try.prog N 52 MBlastClauses.k52 (fun x => x.f0.size ≤ 140737488351232 ∧ (Lit.int .i64 x.f1).wf = true) :=
  (opens_iso (fun x : MBlastClauses.S52 => (x.f0, x.f1)) (fun p => ⟨p.1, p.2⟩) (fun _ => rfl)
    (opens_struct Try.underlying52 (by kernel_rfl) (opensF_cons rfl (opens_string N Try.underlying9 (by kernel_rfl)) (opensF_one rfl (opens_int N Try.underlying3 (by kernel_rfl)))))).mono (Nat.le_succ N)
theorem opens54 (N : Nat) : Opens Try.prog N 54 MBlastClauses.k54 (fun x => (Lit.int .i64 x.f0).wf = true ∧ (Lit.int .i64 x.f1).wf = true) :=
  (opens_iso (fun x : MBlastClauses.S54 => (x.f0, x.f1)) (fun p => ⟨p.1, p.2⟩) (fun _ => rfl)
    (opens_struct Try.underlying54 (by kernel_rfl) (opensF_cons rfl (opens_int N Try.underlying3 (by kernel_rfl)) (opensF_one rfl (opens_int N Try.underlying3 (by kernel_rfl)))))).mono (Nat.le_succ N)
theorem opens26 (N : Nat) : Opens Try.prog N 26 (Kd.pair (Kd.slice 52 MBlastClauses.k52) (Kd.pair (Kd.slice 54 MBlastClauses.k54) (Kd.slice 3 (Kd.int .i64))))
    (fun x => (x.1.length * 24 ≤ 140737488351232 ∧ ∀ a ∈ x.1, a.f0.size ≤ 140737488351232 ∧ (Lit.int .i64 a.f1).wf = true) ∧ (x.2.1.length * 16 ≤ 140737488351232 ∧ ∀ a ∈ x.2.1, (Lit.int .i64 a.f0).wf = true ∧ (Lit.int .i64 a.f1).wf = true) ∧ (x.2.2.length * 8 ≤ 140737488351232 ∧ ∀ a ∈ x.2.2, (Lit.int .i64 a).wf = true)) :=
  (opens_struct Try.underlying26 (by kernel_rfl) (opensF_cons rfl (opens_slice Try.underlying22 (by kernel_rfl) (by kernel_rfl) (opens52 N)) (opensF_cons rfl (opens_slice Try.underlying23 (by kernel_rfl) (by kernel_rfl) (opens54 N)) (opensF_one rfl (opens_slice Try.underlying24 (by kernel_rfl) (by kernel_rfl) (opens_int N Try.underlying3 (by kernel_rfl))))))).mono (Nat.le_succ N)

set_option maxRecDepth 100000 in
theorem lifted (os : Os) (started : os.Started) (H : Type) (enc : TypeId × Value → H) :
    ReturnsInHanded {} Try.checked os 3 .any (Rows.blastClausesSpec.pre6 enc Try.prog Try.f3 Rows.blastClausesRow.domain false) (Rows.blastClausesSpec.post enc Try.prog Try.f3 false true false false) := by
  refine returnsInHanded_of_change_sized (C := Try.checked) own started (by kernel_rfl) Try.func3
    (ChangeSpec.witness6 (enc := enc) (C := Try.checked) false ⟨#[], #[.agg #[.slice none 0 0, .slice none 0 0, .slice none 0 0], .int .i64 0], []⟩ 8 (by kernel_rfl) (by kernel_rfl) (by kernel_rfl) (by kernel_rfl)) ?_
  intro W base args ds gs before hval0 hW hcnd hsz0 _
  have hsz : (DataW.weightsEach Try.prog (Try.f3.params.toList ++ Rows.blastClausesSpec.plain.varTypes Try.prog) (ds ++ gs)).all (· ≤ reachBytes) = true := hsz0
  have hval : ∀ (j : Nat) t v, Try.f3.params[j]? = some t → args[j]? = some v → Value.okWide Try.prog W .any base t v := hval0
  have hW' := hW
  obtain ⟨p, q, hA0, hV, rfl, hfz, hnd⟩ := hW
  have hA : DataW.TrodAll enc Try.prog W 0 (fun _ => true) true Try.f3.params.toList args.toList ds p := hA0
  rw [Try.params3] at hA hval hsz
  obtain ⟨v0, vs0, d0, ds0, p0, q0, hargs, rfl, rfl, h0, r0⟩ := trodAll_cons hA
  obtain ⟨v1, vs1, d1, ds1, p1, q1, rfl, rfl, rfl, h1, r1⟩ := trodAll_cons r0
  obtain ⟨rfl, rfl, rfl⟩ := trodAll_nil r1
  obtain rfl : args = #[v0, v1] := by cases args; simp_all
  obtain ⟨rfl, rfl⟩ := trodVars_none hV
  have k0 := h0
  have lt0 : ∀ x ∈ p0, x.block < W.heap.size := by obtain ⟨m, hm⟩ := k0; exact DataW.trod_lt m _ _ _ hm
  obtain ⟨cs0, rfl, hcs0⟩ := WideShapes.okWide_struct Try.underlying26 (hval 0 26 v0 rfl rfl)
  obtain ⟨⟨l0, l1, l2⟩, hK, w0⟩ := Opens.arg opens26 hsz (j := 0) rfl rfl h0
  obtain ⟨c0, c1, hc, ⟨A0, n0, rfl, y0, z0⟩, c2, c3, rfl, ⟨A1, n1, rfl, y1, z1⟩, ⟨A2, n2, rfl, y2, z2⟩⟩ := hK
  obtain rfl : cs0 = #[.slice A0 l0.length n0, .slice A1 l1.length n1, .slice A2 l2.length n2] := by
    apply Array.toList_inj.1
    simpa [Value.cells] using hc
  obtain ⟨a1, rfl, rfl, rfl, w1⟩ := open_int Try.underlying3 (hval 1 3 v1 rfl rfl) h1
  clear hA0 hval0 hsz0 hsz
  obtain ⟨k, hk⟩ := Pure.BlastClauses l0 l1 l2 a1 w0 w1
  refine (MBlastClauses.retargetlaw04_BlastClauses.calls k A0 n0 l0 A1 n1 l1 A2 n2 l2 a1 true W z0 y0 z1 y1 z2 y2 hk).mono fun e W' ⟨he, bel⟩ => ?_
  subst he
  exact ⟨_, rfl, _, _, _, [], _, [], hW', trodAll_mk1 (shut_bool Try.underlying4 _), (trodAll_cons_mk (Below.trod laidOut (by kernel_rfl) (of_decide_eq_true (by kernel_rfl)) k0 bel lt0) (trodAll_cons_mk (shut_int Try.underlying3 w1) trodAll_mk0)), rfl, bel.frame _, fun h => by cases h⟩
theorem over : Rows.blastClausesRow.holds Try.pinned (OpenSpec.ofChange Rows.blastClausesSpec) :=
  OpenClaim.holds_of_wide 3 Try.f3 rfl rfl rfl rfl rfl rfl rfl ⟨rfl, rfl, rfl, rfl, rfl⟩ rfl rfl rfl rfl rfl (by kernel_rfl) Try.func3 (by kernel_rfl)
    (of_decide_eq_true (by kernel_rfl)) (by unfold Func.isWrapper; first | (rw [if_pos (by decide +kernel)]; kernel_rfl) | (rw [if_neg (by decide +kernel)]; exact ⟨rfl, rfl⟩))
    (fun os started H enc _ => lifted os started H enc)
theorem proved : Rows.BlastClausesSaid := over
#print axioms proved
end Go.Proofs.Ytjapfakpfoeaiaa.blastClauses
namespace Go.Proofs.Ytjapfakpfoeaiaa
/-- The row, under a short name, for the claim. -/
theorem blastClauses_holds : Rows.BlastClausesSaid := blastClauses.proved
end Go.Proofs.Ytjapfakpfoeaiaa
