/- slices.Clone at []int, by hand. -/
import Derived.Test.YtjopdafckhkmmaaDoorCBSatHBSMakerLeaf
import Derived.Lib.SliceRun
import Derived.Laws.Cover3
set_option linter.unusedVariables false
set_option linter.unusedSimpArgs false
namespace Go.Proofs.YtjopdafckhkmmaaDoor.MBS
open Go.Proofs.YtjopdafckhkmmaaDoor.Zed Go.RowKit Go.Proofs.YtjopdafckhkmmaaDoorW.PrintWords Go.Proofs.YtjopdafckhkmmaaDoorW.PrintLast Go.Proofs.YtjopdafckhkmmaaDoorW.PrintMore
set_option maxHeartbeats 1000000 in
set_option maxRecDepth 100000 in
theorem cloneI_calls (v : Value) (xs : List Int) (w : World) (hr : RI w v xs) :
    Calls Tryd.prog 26 #[v] w fun e w' => ∃ v', e = .returned v' ∧ kI.R 3 w' w.heap.size (fun _ => True) v' xs ∧ Below w.heap.size w w' := by
  have hlen := hr.1
  obtain ⟨A, c, rfl, hc, hcm, hC⟩ := hr.read
  have hu22 := Tryd.underlying30
  have hq : ∀ W : World, (binOp .eql 30 (.slice A xs.length c) (.slice none 0 0)).run Tryd.prog W = .ok (.bool A.isNone) W := fun W => Lib.run_eql_slice_nil W 30 3 A xs.length c 0 0 hu22
  have HR := Aside0.mk hC
  have HC := Aside0.mk hc
  have HL := Aside0.mk hlen
  clear hr hc hlen hC hcm
  have HB := Aside0.mk (Below.refl w.heap.size w)
  cases A with
  | none =>
    go_enter Tryd.func26, Tryd.ntmps26
    go_wp2
    go_ret
    have hnil : xs = [] := by
      have h := HR.out
      cases xs with
      | nil => rfl
      | cons x r => exact absurd h (by simp [Kd.C, ReadsRow])
    subst hnil
    exact ⟨_, rfl, Kd.R_nil _ _ _ _ _, HB.out⟩
  | some ad =>
    go_enter Tryd.func26, Tryd.ntmps26
    go_wp2_with (first | ((with_reducible refine gate_dst (N := 5) rfl ?_); refine Kd.R_lit kI _ 3 ?hg (N := 5) ?hd (xs := ([] : List Int)) (inner := []) (ok := fun _ => True) (okp := fun _ => True) ?hr ?hp (fun _ hk => hk) trivial (Below.refl _ _) (Nat.le_refl _) (by simp) ?_; (case hd => rfl); (case hg => rfl); (case hr => first | (go_simp; done) | (go_simp; rfl)); (case hp => exact (Reps.none _ _)); intro v1 w5 ho6 hb hg_ hnew_; clear hg_ hnew_; have n0_ := Aside0.mk (Kd.R_lower ho6 (below_size HB.out)); have n2_ := Aside0.mk (below_step HB.out hb); clear HB; have HO := n0_; have HB := n2_; clear n0_ n2_ hb ho6) | ((with_reducible refine gate_builtin (b := .append) (xs := #[.tmp 5, .tmp 6]) rfl ?_); at_builtin; go_loud (refine Kd.R_append_rows kI (w0 := w) w.heap.size rfl (.tmp 5) (.tmp 6) 30 3 (.int .i64 0) 8 rfl Tryd.underlying30 info3 rfl q33_ q29_ v1 [] xs _ _ _ (fun _ => True) (fun _ => False) rfl rfl ?aO ?aR (fun _ _ h => h) (fun _ h => h.elim) ?aF ?aB ?aS ?aL ?_); (case aR => exact (Kd.C_below HR.out HB.out)); (case aB => exact HB.out); (case aF => exact (fun _ _ => trivial)); (case aO => exact HO.out); (case aS => exact below_size HB.out); (case aL => have := HL.out; simp; omega); intro v2 w7 ho hb hg hat))
    go_ret
    exact ⟨_, rfl, by simpa using ho, hb⟩
end Go.Proofs.YtjopdafckhkmmaaDoor.MBS
