/- term.Size by hand: a range over the nodes of a term. No condition. -/
import Derived.Test.YtjopdafckhkmmaaDoorCBSatHBSTermIter
set_option linter.unusedVariables false
set_option linter.unusedSimpArgs false
namespace Go.Proofs.YtjopdafckhkmmaaDoor.MBS
open Go.Proofs.YtjopdafckhkmmaaDoor.Zed Go.RowKit Go.Proofs.YtjopdafckhkmmaaDoorW.PrintWords Go.Proofs.YtjopdafckhkmmaaDoorW.PrintLast Go.Proofs.YtjopdafckhkmmaaDoorW.PrintMore
attribute [local go_sem] Oper.semAt_some
theorem list_map_len {α β : Type} {f : α → β} {a : List α} {b : List β} (h : a.map f = b) : a.length = b.length := by rw [← h, List.length_map]
theorem fill_one (p : Tmp) (v : Value) (t : Array Value) : (((#[p] : Array Tmp).zip #[v]).foldl (fun t (p, v) => t.setIfInBounds p v) t) = t.setIfInBounds p v := by
  have e : ((#[p] : Array Tmp).zip #[v]) = #[(p, v)] := by rw [← Array.toList_inj]; simp
  rw [e]
  rfl
set_option maxRecDepth 100000 in
set_option maxHeartbeats 2000000 in
theorem Size_calls (x : Tm) (cs : List Value) (w : World) (hK : kT.K w x cs) (hn : (nd x).length ≤ 1000000) :
    Calls Tryd.prog 52 #[.agg cs.toArray] w fun e w' => e = .returned (.int .i64 (nd x).length) ∧ Below w.heap.size w w' := by
  refine (callsIn_wide (n := 5)).1 ?_
  have HK := Aside0.mk hK
  obtain ⟨A5, c5, rfl, l5, g5⟩ := k25_open hK
  have hu25 := Tryd.underlying25
  clear g5 hK
  refine callsIn_of_wp_marks Tryd.func52 rfl trivial ?_ rfl
  simp only [Tryd.ntmps52, List.size_toArray, List.length_cons, List.length_nil, Nat.reduceAdd, Nat.reduceSub, Array.replicate_succ, Array.replicate_zero, List.push_toArray, List.append_toArray, List.nil_append, List.cons_append]
  gi_wp2
  have hW1b : Below w.heap.size w (w.alloc (.cells #[.int .u8 x.f0, .int .i64 x.f1, .int .u64 x.f2, .string x.f3, .int .i64 x.f4, .slice A5 x.f5.length c5] 25)) := below_alloc (Below.refl _ _) _
  have hW2b := below_alloc hW1b (.cells #[.int .i64 0] 3)
  have hbx0 := blk_new (w.alloc (.cells #[.int .u8 x.f0, .int .i64 x.f1, .int .u64 x.f2, .string x.f3, .int .i64 x.f4, .slice A5 x.f5.length c5] 25)) (.cells #[.int .i64 0] 3)
  have hsz2 : ((w.alloc (.cells #[.int .u8 x.f0, .int .i64 x.f1, .int .u64 x.f2, .string x.f3, .int .i64 x.f4, .slice A5 x.f5.length c5] 25)).alloc (.cells #[.int .i64 0] 3)).heap.size = w.heap.size + 2 := by simp
  rw [World.size_alloc] at hbx0
  generalize ((w.alloc (.cells #[.int .u8 x.f0, .int .i64 x.f1, .int .u64 x.f2, .string x.f3, .int .i64 x.f4, .slice A5 x.f5.length c5] 25)).alloc (.cells #[.int .i64 0] 3)) = W2 at hW2b hbx0 hsz2 ⊢
  clear hW1b
  refine ⟨trivial, ?_⟩
  refine (callsIn_wide.2 (nodes_calls x _ W2 (kT.K_below hW2b HK.out))).mono ?_
  rintro e w' ⟨rfl, rfl⟩
  have hW3b := below_alloc hW2b (.cells [.int .u8 x.f0, .int .i64 x.f1, .int .u64 x.f2, .string x.f3, .int .i64 x.f4, .slice A5 x.f5.length c5].toArray 25)
  have hbx := blk_new W2 (.cells [.int .u8 x.f0, .int .i64 x.f1, .int .u64 x.f2, .string x.f3, .int .i64 x.f4, .slice A5 x.f5.length c5].toArray 25)
  have hbi : Boxed (W2.alloc (.cells [.int .u8 x.f0, .int .i64 x.f1, .int .u64 x.f2, .string x.f3, .int .i64 x.f4, .slice A5 x.f5.length c5].toArray 25)) (w.heap.size + 1) 3 (.int .i64 ((0 : Nat) : Int)) := blk_alloc hbx0 _
  have hsz3 : (W2.alloc (.cells [.int .u8 x.f0, .int .i64 x.f1, .int .u64 x.f2, .string x.f3, .int .i64 x.f4, .slice A5 x.f5.length c5].toArray 25)).heap.size = w.heap.size + 3 := by simp [hsz2]
  rw [hsz2] at hbx
  rw [hsz2]
  generalize (W2.alloc (.cells [.int .u8 x.f0, .int .i64 x.f1, .int .u64 x.f2, .string x.f3, .int .i64 x.f4, .slice A5 x.f5.length c5].toArray 25)) = W3 at hW3b hbx hbi hsz3 ⊢
  clear hbx0 hW2b hsz2
  gi_wp2
  refine wpIn_rangeFunc_ownG (F := Fence.wide) rfl q29_ (gf := 58) (lb := #[.pointer (some ⟨w.heap.size + 2, 0, none⟩)]) rfl trivial (enters_of Tryd.func58 q28_ rfl)
    (nodes_stops (5 - 1) w.heap.size (w.heap.size + 3) (w.heap.size + 2) w W3 (fun _ => True) rfl q29_ x _ (fun _ _ => trivial) HK.out hW3b q29_ hbx)
    (fun h k => h.trans k) (fun W l o o' hl h hc hw => kpB_b q29_ W l o o' q29_ h hc hw) (Below.refl _ _) (fun _ => rfl)
    (fun pre W => Boxed W (w.heap.size + 1) 3 (.int .i64 (pre.length : Nat)) ∧ Below w.heap.size w W) (fun _ _ _ => False)
    (OwnFrom.and (Own.from (boxed_own _ _ _) _) (ownFrom_below (Nat.le_refl _) q29_)) (fun _ _ _ _ _ hs _ _ => hs) ⟨hbi, hW3b⟩
    (fun x' => { tmps := #[.agg #[.int .u8 x.f0, .int .i64 x.f1, .int .u64 x.f2, .string x.f3, .int .i64 x.f4, .slice A5 x.f5.length c5], .pointer (some ⟨w.heap.size, 0, none⟩), .int .i64 0, .pointer (some ⟨w.heap.size + 1, 0, none⟩), .agg #[.int .u8 x.f0, .int .i64 x.f1, .int .u64 x.f2, .string x.f3, .int .i64 x.f4, .slice A5 x.f5.length c5], .func (.func 58) #[] #[.pointer (some ⟨w.heap.size + 2, 0, none⟩)], .agg x'.1.2, undef, undef, undef], defers := [] }) ?assign ?body ?done ?stop
  case assign =>
    intro l x' W K hK
    rw [fill_one]
    gi_wp2
    exact hK
  case body =>
    rintro l pre x' W ⟨hc, hB⟩ hlt
    have q0 := (blk_cell hc 0).trans (show _ = some (Value.int .i64 (pre.length : Nat)) from rfl)
    have f0 := blk_frozen hc 0
    have hlt2 : pre.length < 1000000 := by omega
    have HC := Aside0.mk hc
    have HB := Aside0.mk hB
    clear hc hB
    gi_wp2
    refine ⟨(KeepsOthers.setCell _ _ _).from _, (KpB.refl _ _ _).setCell _ _ q29_ q29_ _, ?_, below_set HB.out q29_⟩
    have := blk_set HC.out 0 (.int .i64 ((pre.length : Int) + 1))
    show _ = some _
    rw [List.length_append]
    simpa using this
  case done =>
    rintro D ys W hD hys ⟨hc, hB⟩ hKD
    have q0 := (blk_cell hc 0).trans (show _ = some (Value.int .i64 (ys.length : Nat)) from rfl)
    have hly := list_map_len hys
    rw [hly] at q0
    have HB := Aside0.mk hB
    clear hc hB hys hly
    gi_wp2
    refine ⟨by simp, .inl ⟨_, _, rfl, run_takeDeferred hKD, ?_⟩⟩
    refine ⟨_, results_tmp rfl _ _ _, rfl, ?_⟩
    exact HB.out.trans (belowK_b (w := w) (Nat.le_refl _) W D _ _ q29_ hKD rfl rfl)
  case stop =>
    rintro D c pre W _ _ h _
    exact h.elim
end Go.Proofs.YtjopdafckhkmmaaDoor.MBS
